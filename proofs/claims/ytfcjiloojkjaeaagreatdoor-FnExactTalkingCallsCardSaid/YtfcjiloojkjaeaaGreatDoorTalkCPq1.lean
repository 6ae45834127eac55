/-
  Part 1 of what stands behind the last text.
-/
import Derived.Test.YtfcjiloojkjaeaaGreatDoorRows
import Derived.Lib.SmallJoins
import Derived.WalkSpells
import Derived.WalkLawsBesides
import Derived.BigQuiet
import Derived.Deep.OwnRows
import Derived.Deep.AppendLies
import Derived.Deep.AppendSrc
import Derived.Deep.RegionLaw
import Derived.Lib.ItoaLen
import Derived.Deep.Matrix
import Derived.Deep.RegionHeld3
import Derived.Deep.CutRange
import Derived.Conc.Own
open Array renaming foldl_toList→zwt,getD_eq_getD_getElem?→tJ,getElem?_eq_getElem→mE,getElem?_eq_none→F7,getElem?_eq_none_iff→zwJ,getElem?_eq_some_iff→dP,getElem?_map→yB,getElem?_modify→zh8,getElem?_push→Vr,getElem?_push_lt→Su,getElem?_setIfInBounds_ne→jV,getElem?_setIfInBounds_self_of_lt→Ki,range→Lb
open Bool renaming eq_iff_iff→M9,false_eq_true→jE
open Go renaming Addr→bL,BinOp→Mm,BoundsCode→zhI,Calls→fN,FuncId→aP,IntKind→Ec,MapEntry→oP,MemPlace→zte,Obj→tH,Oper→aZ,Operand→cM,Program→bS,Sem→cU,TypeDesc→Zr,TypeId→aM,TypeInfo→wW,Value→aF,World→aE,heap_alloc_new→lF,info_parts→y8,run_append_own_at→zp8,yielded→dR
open Go.Addr renaming add→zha
open Go.Addr.mk renaming injEq→zvX
open Go.Builtin renaming append_→xG,cap_→znC,clear_→Si,copy_→C7,delete_→J0,firstCells→Tn,holdsCells→ziM,lenOf→zpy,len_→zjA,mayShare→zv9,unsafeAdd_→M0,zeroCells→qD
open Go.ByteArray renaming toList_eq→zn8
open Go.DataW renaming Trod→zrw,trod_int→Xl
open Go.Ending renaming returned→zin
open Go.Instr renaming alloc→zja,box→zmO,build→ziT,buildSlice→zic,checkKey→Gs,extract→zlg,fieldAt→zlK,fill→Nn,findAsking→Ku,findKey→Kd,findNow→G2,index→znP,indexAt→znL,keyThatStays→Oy,loadAt→zjT,lookup→zK,makeChan→zlm,makeInterface→zi6,makeMap→zjB,makeSlice→zfY,mapUpdate→Gi,sameBits→zai,sameNow→vT,slice→Wx,sliceAt→Vj,sliceBound→Lh,sliceBounds→Xz,storeAt→zli,sureAddr→zuD
open Go.Lib renaming decDigits→Lg,decDigits_one→zvS,itoa→J9
open Go.Obj renaming cells→zq0
open Go.Op renaming addrCmp→ziV,addrMod→zlt,addrSub→znp,equal→zA,equalIn→Da,intArith→zty,intBits→zuC,intDiv→zhT,shift→zmj,stringOp→zkm,twoPlaces→ziR
open Go.Oper renaming wp→Bm
open Go.Proofs.Tryz renaming func10→zsG,func16→ztF,func17→zxZ,func22→zqx,func23→zrg,func39→zw6,func44→zu2,ntmps10→zvv,ntmps16→zqo,ntmps17→zqp,ntmps22→zs8,ntmps23→zpj,ntmps39→zqV,ntmps44→zok,prog→aK,underlying57→J6
open Go.Region renaming wanted→dF
open Go.Result renaming andThen_ok→Fq
open Go.RowKit renaming Below→bV
open Go.RowKit.Below renaming heap_alloc→qO,heap_setCell→eH,refl→eF
open Go.Sem renaming events→vY,run→bD,runT→zO,run_bind→Eg,run_bind'→sE,run_pure→Iu
open Go.Value renaming cells→Ta,okWide→ztg,oneCell'→zwx,ownBlock→D8,tuple→X1
open Go.World renaming block_lt_of_cell?→zwD,cell?→lI,cell?_of_block→De,farLoad→yV,farStore→Dh,frozen?→Ri,news_of_block→Fo,noCell→rD,setCell→zid,shape?→zcq,size_setCell→tD
open List renaming cons_append→Us,dropWhile_cons→zp4,ext_getElem?→Sw,filter_append→Qf,filter_cons→zow,find?_cons→zrM,findIdx?_cons→zox,flatMap_cons→zcV,getElem?_eq_getElem→lX,getElem?_eq_none→Ca,getElem?_eq_some_iff→kD,getElem?_modify→zM,length→Zm,length_append→gN,length_cons→pT,length_drop→x3,length_filter_le→zb5,length_modify→F6,length_nil→rR,length_take→rQ,map_cons→fO,map_nil→tW,map_toArray→uI,mem_cons→jJ,mem_iff_getElem→L9,mem_map→Ia,mem_of_getElem?→dZ,nil_append→zeY,range→gF,takeWhile_cons→zah,take_add_one→Nf,take_of_length_le→zB
open Nat renaming add_assoc→X0,le_refl→aX,le_trans→eG,lt_irrefl→Cr,lt_of_lt_of_le→lD,lt_or_ge→nC,lt_succ_self→xH,mul_le_mul_right→Aj,succ_mul→zj3,zero_add→qY,zero_le→jT,zero_mul→zbX
open Option.some renaming inj→cE,injEq→gA
open Pure renaming pure→kN
open UInt8 renaming ofNat→Uy
set_option linter.all false
structure qC (P:Prop):Prop where
 o:P
def aD {P:Prop}(h:P):qC P:=⟨h⟩
set_option maxHeartbeats 16000000
set_option maxRecDepth 100000
namespace Go
def aC{P:Prop}(h:P:=by omega):P:=h
def aH{P:Prop}(h:P:=by decide):P:=h
def aQ{P:Prop}(h:P:=by kernel_rfl):P:=h
def aO{P:Prop}(h:P:=by simp):P:=h
def Uu{P:Prop}(h:P:=by intro u hu;simp[bJ.cells] at hu;rcases hu with rfl|rfl<;>rfl):P:=h
def q8{P:Prop}(h:P:=by simp;omega):P:=h
def Lm{P:Prop}(h:P:=by intro u hu;simp at hu;subst hu;rfl):P:=h
def zpk{P:Prop}(h:P:=by(repeat' (first|with_reducible assumption|with_reducible exact zbP (by assumption)|with_reducible exact eF _ _|with_reducible apply dN|with_reducible apply zcD))):P:=h
def mV{P:Prop}(h:P:=by go_num):P:=h
def Hm{P:Prop}(h:P:=by simp[D8];omega):P:=h
def zwM{P:Prop}(h:P:=by intro k hk aT;have cO:k=0\/k=1\/k=2\/k=3\/k=4\/k=6:=(by omega);rcases cO with rfl|rfl|rfl|rfl|rfl|rfl<;>rfl):P:=h
def zxY{P:Prop}(h:P:=by intro k hk aT;have cO:k=0\/k=1\/k=2\/k=3\/k=4\/k=5:=(by omega);rcases cO with rfl|rfl|rfl|rfl|rfl|rfl<;>rfl):P:=h
def Lt{P:Prop}(h:P:=by simp only;omega):P:=h
def zyl{P:Prop}(h:P:=by symm;rw[beq_eq_false_iff_ne];intro e;exact HN.o (by rw[<-hl.o,<-yH.o,e])):P:=h
def zg5{P:Prop}(h:P:=by rw[hl.o];exact aX _):P:=h
def zgV{P:Prop}(h:P:=by first|(simp;done)|(simp;omega)):P:=h
def Uz{P:Prop}(h:P:=by simpa using h1):P:=h
def Sb{P:Prop}(h:P:=by simpa using h2):P:=h
def Zd{P:Prop}(h:P:=by assumption):P:=h
def zuY{P:Prop}(h:P:=by unfold vC;rw[zk8 HC.o (by rw[hl.o];exact aX _)];rfl):P:=h
def Mo{P:Prop}(h:P:=by rw[bD]):P:=h
def Vy{P:Prop}(h:P:=by rw[eY];simp):P:=h
def zeG{P:Prop}(h:P:=by have:=t.size;omega):P:=h
def zob{P:Prop}(h:P:=by first|(simp[D8];done)|(simp[D8];omega)):P:=h
def zgu{P:Prop}(h:P:=by simpa using zpd.o):P:=h
def zhr{P:Prop}(h:P:=by first|exact lJ|exact bN):P:=h
def zhR{P:Prop}(h:P:=by first|exact bN|exact lJ):P:=h
def zd4{P:Prop}(h:P:=by simpa using hb):P:=h
def ztO{P:Prop}(h:P:=by simpa using hF 0 _ rfl hf.1 hf.2):P:=h
def zgM{P:Prop}(h:P:=by simpa using h):P:=h
def zj0{P:Prop}(h:P:=by show y≠gb;omega):P:=h
end Go
namespace Go
def aU{α:Sort _}(a:α):∃y,y=a:=⟨_,rfl⟩
def zyd{p:Nat->Prop}(k:∀i,p i):p 0/\p 1/\p 2:=⟨k 0,k 1,k 2⟩
def eP{p:Nat->Prop}(k:∀i,p i):p 0/\p 1/\p 2/\p 3/\p 4/\p 5/\p 6/\p 7:=⟨k 0,k 1,k 2,k 3,k 4,k 5,k 6,k 7⟩
end Go
namespace Go.Proofs.YtfcjiloojkjaeaaGreatDoor
open Go.Joins Go.ChangeShapes Go.WideShapes Go.RowKit Go.Deep
def own:ownKnob aK.godebug=none:=aQ
def zh0:laidOutB aK=true:=aQ
end Go.Proofs.YtfcjiloojkjaeaaGreatDoor
namespace Go.Proofs.YtfcjiloojkjaeaaGreatDoor
open Go.RowKit
def inB (n lo hi:Int):Bool:=decide (lo<=n/\n<=hi)
def D4 {a b:Bool}(h:a=b):zin (.bool a)=.returned (.bool b):=by rw[h]
def As {k:Ec}{a b:Int}(h:a=b):zin (.int k a)=.returned (.int k b):=by rw[h]
variable {W:aE}{N:Nat}{o:tH}
def fP (hN:W.heap[N]? =some o):N<W.heap.size:=by
 rcases nC N W.heap.size with h|h
 .exact h
 .rw[F7 h] at hN;cases hN
variable {w1:aE}
def eI (hb:bV W.heap.size W w1)(hN:W.heap[N]? =some o):w1.heap[N]? =some o/\N<w1.heap.size:=
 ⟨(hb.block N (fP hN)).trans hN,lD (fP hN) hb.size⟩
def dB (hN:W.heap[N]? =some o)(o':tH):(W.alloc o').heap[N]? =some o:=(qO W o' N (fP hN)).trans hN
variable {w:aE}
def Yg (h:bV w.heap.size w W)(hb:bV W.heap.size W w1):bV w.heap.size w w1:=h.trans (hb.mono h.size)
def dN (h:bV w.heap.size w W)(o:tH):bV w.heap.size w (W.alloc o):=h.alloc h.size o
variable {cs:Array aF}{T:aM}{fz:Nat×Nat}
def aJ (h:w.heap[N]? =some (.cells cs T fz))(o:Nat):w.cell? ⟨N,o,none⟩=cs[o]? :=cell_of_row w N o cs T fz h
def zpZ (n lo hi:Int)(w:aE):
 fN aK 49 #[.int .i64 n,.int .i64 lo,.int .i64 hi] w λe w'=>e=.returned (.bool (inB n lo hi))/\w'=w:=by
 go_enter Tryz.func49,Tryz.ntmps49
 go_wp2
 all_goals go_ret
 all_goals exact⟨D4 (by simp[inB];omega),rfl⟩
structure b7 (w:aE)(lo hi s:Nat)(A:Option bL)(n c:Nat)(xs:List aF):Prop where
 len:xs.length=n*s
 le:n<=c
 cap:c<=maxLen
 at_:0<n->∃b off,A=some ⟨b,off,none⟩/\lo<=b/\b<hi/\b<w.heap.size/\∀j v,xs[j]? =some v->w.cell? ⟨b,off+j,none⟩=some v
variable {w':aE}{lo hi s n c:Nat}{A:Option bL}{xs:List aF}
def b7.keep (h:b7 w lo hi s A n c xs)(hs:w.heap.size<=w'.heap.size)(k:∀b,lo<=b->b<hi->b<w.heap.size->w'.heap[b]? =w.heap[b]?):b7 w' lo hi s A n c xs:=
 ⟨h.len,h.le,h.cap,λhn=>by
  obtain⟨b,off,e,h1,h2,h3,h4⟩:=h.at_ hn;exact⟨b,off,e,h1,h2,lD h3 hs,λj v hv=>(De (k b h1 h2 h3)).trans (h4 j v hv)⟩⟩
def b7.below (h:b7 w lo hi s A n c xs)(hb:bV w.heap.size w w'):b7 w' lo hi s A n c xs:=
 h.keep hb.size λb _ _ h3=>hb.block b h3
def b7.alloc (h:b7 w lo hi s A n c xs)(o:tH):b7 (w.alloc o) lo hi s A n c xs:=
 h.keep aO λb _ _ h3=>qO w o b h3
def b7.wide {x8 gV:Nat}(h:b7 w lo hi s A n c xs)(h1:x8<=lo)(h2:hi<=gV):b7 w x8 gV s A n c xs:=
 ⟨h.len,h.le,h.cap,λhn=>by obtain⟨b,off,e,k1,k2,k3,k4⟩:=h.at_ hn;exact⟨b,off,e,aC,aC,k3,k4⟩⟩
def eJ (xs:List Int):List Value:=xs.map (aF.int .i64)
variable {k:Nat}{xs:List Int}
def zzT (h:k<xs.length):(eJ xs)[k]? =some (.int .i64 xs[k]):=by simp[eJ,h]
def b7.cellAt (h:b7 w lo hi 1 A n c (eJ xs))(hk:k<n):∃b off v,A=some ⟨b,off,none⟩/\lo<=b/\b<hi/\b<w.heap.size/\xs[k]? =some v/\w.cell? ⟨b,off+k,none⟩=some (.int .i64 v):=by
 obtain⟨b,off,e,h1,h2,h3,h4⟩:=h.at_ aC;have hl:k<xs.length:=by have:=h.len;simp[eJ] at this;omega
 exact⟨b,off,xs[k],e,h1,h2,h3,lX hl,h4 k _ (zzT hl)⟩
def b7.length (h:b7 w lo hi 1 A n c (eJ xs)):xs.length=n:=by have:=h.len;simp[eJ] at this;exact this
def zot:(aK.info? 3).map (λi=>(i.zero,i.size,i.bytes))=some (some (.int .i64 0),1,8):=aQ
def eL (h:w.heap[N]? =some (.cells cs T))(o:Nat):w.frozen? ⟨N,o,none⟩=false:=by simp[Ri,h]
def nH {g i:Nat}(h:w.heap[g]? =some (.cells cs T fz))(v:aF):(w.setCell ⟨g,i,none⟩ v).heap[g]? =some (.cells (cs.setIfInBounds i v) T fz):=by
 simp[zid,zh8,h]
variable {ys:List Int}
def zCL {u v:Int}(h1:xs[k]? =some u)(h2:ys[k]? =some v)(aT:¬u=v):(xs==ys)=false:=by
 rw[beq_eq_false_iff_ne];intro e;subst e;rw[h1] at h2;injection h2 with h2;exact aT h2
def zDc (hl:xs.length=ys.length)(h:∀j:Nat,j<xs.length->xs[j]? =ys[j]?):(xs==ys)=true:=by
 rw[beq_iff_eq];apply Sw;intro j;rcases nC j xs.length with hj|hj
 .exact h j hj
 .rw[Ca hj,Ca aC]
def SaysB (w:aE)(t:Bool)(e:Ending)(w':aE):Prop:=e=.returned (.bool t)/\∃m,w'=w.drewN m
def zz9 (lo hi n c x8 gV n' c':Nat)(A A':Option bL)(xs ys:List Int)(w:aE)(h:b7 w lo hi 1 A n c (eJ xs))(h':b7 w x8 gV 1 A' n' c' (eJ ys))(hn:n<=1048576)(sV:n'<=1048576):
 fN aK 22 #[.slice A n c,.slice A' n' c'] w (SaysB w (xs==ys)):=by
 have hl:=aD h.length;have yH:=aD h'.length;by_cases aT:n=n'
 .subst aT
  go_enter zqx,zs8
  go_wp2
  go_loopw [5] (λi wr=>∃k:Nat,k<=n/\i=.int .i64 k/\(∃m,wr=w.drewN m)/\∀j,j<k->xs[j]? =ys[j]?) (λi _=>n-(intOf i).toNat)
  case atStart=>exact⟨0,jT _,rfl,⟨0,rfl⟩,λj hj=>absurd hj aC⟩
  case round=>
   obtain⟨k,hk,rfl,⟨m,rfl⟩,fV⟩:=hrel;have HC:=aD fV;clear fV;by_cases aN:k<n
   .obtain⟨b,off,v,rfl,_,_,h3,eM,hv⟩:=h.cellAt aN
    obtain⟨b',O0,v',rfl,_,_,zgW,Co,Ke⟩:=h'.cellAt aN;have HX:=aD eM;have zbH:=aD Co;clear eM Co h h';have i0:(0:Int)<=(k:Int):=aC;have i1:(k:Int)<(n:Int):=aC;by_cases qS:v=v'
    .have hb:(v !=v')=false:=by simp[qS]
     have HV:=aD qS;clear qS;go_wp2
     go_quiet (fail)
     go_wp2;go_roundw
     case rel=>exact⟨k+1,aC,mV,⟨_,rfl⟩,λj hj=>by
      by_cases e:j=k
      .subst e;rw[HX.o,zbH.o,HV.o]
      .exact HC.o j aC⟩
     case measure=>simp[intOf];omega
    .have hb:(v !=v')=true:=by simp[qS]
     have HV:=aD qS;clear qS;go_wp2
     go_quiet (fail)
     go_wp2;go_ret;exact⟨D4 (zCL HX.o zbH.o HV.o).symm,_,by first|rfl|exact aE.drewN_drewN _ _ _⟩
   .have e:k=n:=aC
    subst e;go_wp2;go_ret;exact⟨D4 (zDc (by rw[hl.o,yH.o]) (by rw[hl.o];exact HC.o)).symm,_,rfl⟩
 .have hq:((n:Int) !=(n':Int))=true:=by rw[bne_iff_ne];omega
  clear h h';have HN:=aD aT;clear aT
  go_enter zqx,zs8
  go_wp2;go_ret;exact⟨D4 zyl,0,rfl⟩
structure qI (lo hi:Nat)(w w':aE):Prop where
 os:w'.os=w.os
 tape:w'.tape=w.tape
 output:w'.output=w.output
 size:w.heap.size<=w'.heap.size
 block:∀i,i<w.heap.size->¬(lo<=i/\i<hi)->w'.heap[i]? =w.heap[i]?
def qI.refl (lo hi:Nat)(w:aE):qI lo hi w w:=⟨rfl,rfl,rfl,aX _,λ_ _ _=>rfl⟩
variable {a b:aE}
def qI.trans {c:aE}(h:qI lo hi a b)(k:qI lo hi b c):qI lo hi a c:=
 ⟨k.os.trans h.os,k.tape.trans h.tape,k.output.trans h.output,eG h.size k.size,λi hi aT=>(k.block i (lD hi h.size) aT).trans (h.block i hi aT)⟩
def qI.of_below (h:bV a.heap.size a b):qI lo hi a b:=⟨h.os,h.tape,h.output,h.size,λi hi _=>h.block i hi⟩
def qI.setCell (h:qI lo hi a b){p:bL}(h1:lo<=p.block)(h2:p.block<hi)(v:aF):qI lo hi a (b.setCell p v):=
 ⟨h.os,h.tape,h.output,by simpa[zid] using h.size,λi hi aT=>(eH b p v i aC).trans (h.block i hi aT)⟩
variable {xs:List aF}
def b7.chg {l' h':Nat}(h:b7 w lo hi s A n c xs)(k:qI l' h' w w')(hd:hi<=l'\/h'<=lo):b7 w' lo hi s A n c xs:=
 h.keep k.size λb h1 h2 h3=>k.block b h3 aC
structure Own (w:aE)(lo hi:Nat)(A:Option bL)(n c:Nat)(xs:List Int):Prop where
 slc:b7 w lo hi 1 A n c (eJ xs)
 blk:0<n->∃b cs,A=some ⟨b,0,none⟩/\w.heap[b]? =some (.cells cs 3)/\n<=cs.size
def N0 (k:Int)(n:Nat):List Int:=(gF n).map λj:Nat=>k+(j:Int)
def zqZ {k:Int}{j:Nat}(h:j<n):(N0 k n)[j]? =some (k+(j:Int)):=by simp[N0,h]
def Marked (w:aE)(lo hi:Nat)(A:Option bL)(n c:Nat)(k:Int)(e:Ending)(w':aE):Prop:=
 e=.returned (.int .i64 (k+n))/\Own w' lo hi A n c (N0 k n)/\qI lo hi w w'/\w'.heap.size=w.heap.size
def zIu (lo hi n c:Nat)(A:Option bL)(xs:List Int)(k0:Int)(w:aE)(h:Own w lo hi A n c xs)(hn:n<=1048576)(jC:0<=k0)(nZ:k0<=100000000000):
 fN aK 23 #[.slice A n c,.int .i64 k0] w (Marked w lo hi A n c k0):=by
 by_cases h0:n=0
 .subst h0
  have H:=h;clear h
  go_enter zrg,zpj
  go_wp2
  go_loopw [1,5] (λq i wr=>q=.int .i64 k0/\i=.int .i64 0/\wr=w) (λ_ _ _=>0)
  case atStart=>exact⟨rfl,rfl,rfl⟩
  case round=>
   obtain⟨rfl,rfl,rfl⟩:=hrel;go_wp2;go_ret;exact⟨As aO,⟨⟨by simp[N0,eJ],H.slc.le,H.slc.cap,λhh=>absurd hh aC⟩,λhh=>absurd hh aC⟩,qI.refl _ _ _,rfl⟩
 .obtain⟨b,xP,rfl,G6,zAr⟩:=h.blk aC
  obtain⟨b',off,e',h1,h2,h3,_⟩:=h.slc.at_ aC;injection e' with e';injection e' with e1 e2 e3;subst e1;have hle:=h.slc.le;have zgD:=h.slc.cap;clear e2 e3 h;have Ng:=aD G6;clear G6
  go_enter zrg,zpj
  go_wp2
  go_loopw [1,5] (λq i wr=>∃k:Nat,k<=n/\q=.int .i64 (k0+k)/\i=.int .i64 k/\qI lo hi w wr/\wr.heap.size=w.heap.size/\∃cs:Array aF,wr.heap[b]? =some (.cells cs 3)/\n<=cs.size/\∀j,j<k->cs[j]? =some (.int .i64 (k0+j))) (λ_ i _=>n-(intOf i).toNat)
  case atStart=>exact⟨0,jT _,aO,rfl,qI.refl _ _ _,rfl,xP,Ng.o,zAr,λj hj=>absurd hj aC⟩
  case round=>
   obtain⟨k,hk,rfl,rfl,B,Zy,cs,hb,cG,fV⟩:=hrel;have HC:=aD fV;have HB:=aD hb;have HW:=aD Zy;have hz:=fP hb;have hc:=aJ hb;have hf:=eL hb;clear fV hb Zy;by_cases aN:k<n
   .have D3:∃u,cs[k]? =some u:=⟨cs[k]' aC,mE _⟩
    obtain⟨u,hu⟩:=D3;go_wp2;go_roundw
    case rel=>exact⟨k+1,aC,mV,mV,B.setCell h1 h2 _,by simp[HW.o],cs.setIfInBounds k (.int .i64 (k0+k)),nH HB.o _,by simp;exact cG,λj hj=>by
     by_cases e:j=k
     .subst e
      rw[Ki aC]
     .rw[jV aC];exact HC.o j aC⟩
    case measure=>simp[intOf];omega
   .have e:k=n:=aC
    subst e;go_wp2;go_ret;refine⟨rfl,⟨⟨by simp[N0,eJ],hle,zgD,λ_=>⟨b,0,rfl,h1,h2,hz,λj v hv=>?_⟩⟩,λ_=>⟨b,cs,rfl,HB.o,cG⟩⟩,B,HW.o⟩;have hj:j<k:=by
     rcases nC j k with hh|hh
     .exact hh
     .rw[Ca (by simp[N0,eJ];exact hh)] at hv;cases hv
    rw[qY,hc,HC.o j hj,<-hv];simp[eJ,zqZ hj]
structure rJ (E s:Nat)(w:aE)(lo hi:Nat)(A:Option bL)(n c:Nat)(xs:List aF):Prop where
 slc:b7 w lo hi s A n c xs
 blk:0<n->∃b cs,A=some ⟨b,0,none⟩/\w.heap[b]? =some (.cells cs E)/\n*s<=cs.size
section
variable {E s:Nat}{w w':aE}{lo hi n c:Nat}{A:Option bL}{xs:List aF}
def rJ.keep (h:rJ E s w lo hi A n c xs)(hs:w.heap.size<=w'.heap.size)(k:∀b,lo<=b->b<hi->b<w.heap.size->w'.heap[b]? =w.heap[b]?):rJ E s w' lo hi A n c xs:=
 ⟨h.slc.keep hs k,λhn=>by
  obtain⟨b,cs,e,hb,hc⟩:=h.blk hn;obtain⟨b',off,e',h1,h2,h3,_⟩:=h.slc.at_ hn;rw[e] at e';injection e' with e';injection e' with e1 e2 e3;subst e1;exact⟨b,cs,e,(k b h1 h2 h3).trans hb,hc⟩⟩
def rJ.chg {l' h':Nat}(h:rJ E s w lo hi A n c xs)(k:qI l' h' w w')(hd:hi<=l'\/h'<=lo):rJ E s w' lo hi A n c xs:=
 h.keep k.size λb h1 h2 h3=>k.block b h3 aC
def rJ.below (h:rJ E s w lo hi A n c xs)(k:bV w.heap.size w w'):rJ E s w' lo hi A n c xs:=h.keep k.size λb _ _ h3=>k.block b h3
def zmS {base:Nat}{v:aF}(h:w.ownsRow base E s v n xs)(hs:0<s):∃A c,v=.slice A n c/\rJ E s w base w.heap.size A n c xs:=by
 obtain⟨hl,h|⟨g,cap,cur,rfl,hb,hg,hn,hc,cG,ht⟩⟩:=h
 .obtain⟨rfl,rfl⟩:=h
  exact⟨none,0,rfl,⟨⟨hl,aX _,jT _,λh=>absurd h aC⟩,λh=>absurd h aC⟩⟩
 .refine⟨_,cap,rfl,⟨⟨hl,hn,hc,λh0=>⟨g,0,rfl,hb,fP hg,fP hg,λj v hv=>?_⟩⟩,λh0=>⟨g,cur,rfl,hg,by rw[cG];exact Aj _ hn⟩⟩⟩
  rw[qY,aJ hg];rw[<-ht] at hv;have hj:j<n*s:=by
   rcases nC j (n*s) with h|h
   .exact h
   .rw[Ca (by rw[rQ];omega)] at hv;cases hv
  rw[List.getElem?_take_of_lt hj] at hv;simpa using hv
def b7.cells (h:b7 w lo hi s A n c xs){k:Nat}(hk:k<n):∃b off,A=some ⟨b,off,none⟩/\lo<=b/\b<hi/\b<w.heap.size/\∀f v,xs[k*s+f]? =some v->w.cell? ⟨b,off+(k*s+f),none⟩=some v:=by
 obtain⟨b,off,e,h1,h2,h3,h4⟩:=h.at_ aC;exact⟨b,off,e,h1,h2,h3,λf v hv=>h4 _ v hv⟩
end
variable {E:Nat}
def zBX {m:Nat}(hb:w'.heap[w.heap.size]? =some (.cells cs E))(hz:w.heap.size<w'.heap.size)(hn:cs.size=m*s)(hm:n<=m)(zpx:m<=maxLen)(hx:xs.length=n*s)
 (hc:∀j,j<n*s->cs[j]? =xs[j]?):rJ E s w' w.heap.size w'.heap.size (some ⟨w.heap.size,0,none⟩) n m xs:=
 ⟨⟨
  hx,hm,zpx,λh0=>⟨_,0,rfl,aX _,hz,hz,λj v hv=>by
  have hj:j<n*s:=by
   rcases nC j (n*s) with h|h
   .exact h
   .rw[Ca aC] at hv;cases hv
  rw[qY,aJ hb,hc j hj,hv]⟩⟩,λ_=>⟨_,cs,rfl,hb,by rw[hn];exact Aj _ hm⟩⟩
def str_eq {s s':ByteArray}(h:(s.toList==s'.toList)=true):s=s':=by
 rw[beq_iff_eq,zn8,zn8] at h;exact ByteArray.ext (Array.toList_inj.1 h)
variable {α:Type}
def H0 (f:α->List aF)(hf:∀a,(f a).length=s):∀(l:List α) (k i:Nat),i<s->(l.flatMap f)[k*s+i]? =(l[k]?).bind λa=>(f a)[i]?
 |[],k,i,_=>by simp
 |a::l,0,i,hi=>by
  rw[zcV,zbX,qY,List.getElem?_append_left (by rw[hf];exact hi)];rfl
 |a::l,k+1,i,hi=>by
  rw[zcV,List.getElem?_append_right (by rw[hf,zj3];omega),hf,show(k+1)*s+i-s=k*s+i by rw[zj3];omega,H0 f hf l k i hi];rfl
def Fi (f:α->List aF)(hf:∀a,(f a).length=s)(l:List α):(l.flatMap f).length=l.length*s:=by
 induction l with
 |nil=>simp
 |cons a l ih=>rw[zcV,gN,ih,hf,pT,zj3];omega
variable {v:aF}
def zog {W':aE}{base n:Nat}{w0:aE}(h:w0.ownsRow base E s v n xs)(g:W.grownBy W' v.ownBlock)(hb:base<=W.heap.size):bV base W W':=
 ⟨g.os,g.tape,g.output,g.size,λi hi=>g.block i aC (by
  obtain⟨_,h|⟨b,cap,cur,rfl,h1,_⟩⟩:=h
  .rw[h.1];simp[D8]
  .simp[D8];omega)⟩
def znq {base n:Nat}(h:w.ownsRow base E s v n xs)(hv:¬v=.slice none 0 0):∃g c,v=.slice (some ⟨g,0,none⟩) n c:=by
 obtain⟨_,h|⟨b,cap,cur,rfl,h1,_⟩⟩:=h
 .exact absurd h.1 hv
 .exact⟨b,cap,rfl⟩
def L5 {base g:Nat}(hb:base<=g)(hg:w.heap[g]? =some (.cells #[] E)):w.ownsRow base E s (.slice (some ⟨g,0,none⟩) 0 0) 0 []:=
 ⟨aO,.inr ⟨g,0,#[],rfl,hb,hg,aX _,jT _,aO,aO⟩⟩
def zH {base n:Nat}(h:w.ownsRow base E s v n xs)(hb:∀b,b<w.heap.size->w'.heap[b]? =w.heap[b]?):w'.ownsRow base E s v n xs:=by
 obtain⟨hl,h|⟨g,cap,cur,rfl,h1,hg,h2⟩⟩:=h
 .exact⟨hl,.inl h⟩
 .exact⟨hl,.inr ⟨g,cap,cur,rfl,h1,(hb g (fP hg)).trans hg,h2⟩⟩
def zvm {base n:Nat}(h:w.ownsRow base E s v n xs)(hb:bV w.heap.size w w'):w'.ownsRow base E s v n xs:=zH h λb h=>hb.block b h
def L3 (h:w.heap[N]? =some o):w.drew.heap[N]? =some o:=h
def zcD {B:Nat}(h:bV B a w):bV B a w.drew:=⟨h.os,h.tape,h.output,h.size,h.block⟩
def mI (w:aE)(o:tH){b:Nat}(hb:b=w.heap.size):(w.alloc o).heap[b]? =some o:=by subst hb;exact lF w o
section
variable {P:bS}(w:aE)
def zmw (t ty:aM)(base:Nat)(e:aM)(i:wW)(z:aF)(size bytes:Nat)(ht:P.underlying t=some (.slice e))(hi:P.info? e=some i)(hz:i.zero=some z)
 (wR:i.size=size) (uQ:i.bytes=bytes) (hzs:z.cells.size=size) (cG:0<size)
 (v:aF) (n:Nat) (xs:List aF) (cP:w.ownsRow base e size v n xs) (hv:¬v=.slice none 0 0)
 (ad:bL) (m c:Nat) (news:List aF) (hl:news.length=m*size) (Er:∀j u,news[j]? =some u->w.cell? (ad.add j)=some u) (h1:∀u∈news,u.oneCell'=true)
 (xE:n+m<=maxLen) (xA:(n+m)*bytes<=140737488355328) (rT:base<=w.heap.size):
 ∃g cap w',(xG #[t,t] ty #[v,.slice (some ad) m c]).run P w=.ok (.slice (some ⟨g,0,none⟩) (n+m) cap) w'/\
  w'.ownsRow base e size (.slice (some ⟨g,0,none⟩) (n+m) cap) (n+m) (xs++news)/\w.grownBy w' v.ownBlock/\bV base w w':=by
 obtain⟨v',w',hr,h2,h3,h4,h5⟩:=zp8 (P:=P) w base t ty e i z size bytes ht hi hz wR uQ hzs cG v n xs cP ad m c news hl Er h1 xE xA rT;obtain⟨g,cap,rfl⟩:=znq h2 (λh=>hv (h4.1 h).1);exact⟨g,cap,w',hr,h2,h3,zog cP h3 rT⟩
variable {o:aZ}{a:Act}
def ztR {K:Act->aE->Prop}{Q:Exit->Act->aE->Prop}(s x:cM)(t:aM)
 (ho:o.op=.call {callee:=.builtin .append,args:=#[s,x],argTypes:=#[t,t]})
 (base:Nat) (e:aM) (i:wW) (z:aF) (size bytes:Nat) (ht:P.underlying t=some (.slice e)) (hi:P.info? e=some i) (hz:i.zero=some z)
 (wR:i.size=size) (uQ:i.bytes=bytes) (hzs:z.cells.size=size) (cG:0<size)
 (v:aF) (n:Nat) (xs:List aF) (hs:a.eval s=v) (cP:w.ownsRow base e size v n xs) (hv:¬v=.slice none 0 0)
 (ad:bL) (m c:Nat) (news:List aF) (hx:a.eval x=.slice (some ad) m c) (hl:news.length=m*size) (Er:∀j u,news[j]? =some u->w.cell? (ad.add j)=some u) (h1:∀u∈news,u.oneCell'=true)
 (xE:n+m<=maxLen) (xA:(n+m)*bytes<=140737488355328) (rT:base<=w.heap.size)
 (h:∀g cap w',w'.ownsRow base e size (.slice (some ⟨g,0,none⟩) (n+m) cap) (n+m) (xs++news)->w.grownBy w' v.ownBlock->bV base w w'->K (a.put o.dst (.slice (some ⟨g,0,none⟩) (n+m) cap)) w'):o.wp P a w K Q:=by
 obtain⟨g,cap,w',hr,h2,h3,h4⟩:=zmw (P:=P) w t o.type base e i z size bytes ht hi hz wR uQ hzs cG v n xs cP hv ad m c news hl Er h1 xE xA rT;unfold Bm execOp;simp only[ho,resolve,invoke,builtin,Eg,Iu,Fq,uI,fO,tW,hs,hx,hr];exact h g cap w' h2 h3 h4
variable {ops:Array aZ}
def znx {rest:List aZ}{Q:Exit->Act->aE->Prop}(E8:o.guard=none)(s x:cM)(t:aM)
 (ho:o.op=.call {callee:=.builtin .append,args:=#[s,x],argTypes:=#[t,t]})
 (base:Nat) (e:aM) (i:wW) (z:aF) (size bytes:Nat) (ht:P.underlying t=some (.slice e)) (hi:P.info? e=some i) (hz:i.zero=some z)
 (wR:i.size=size) (uQ:i.bytes=bytes) (hzs:z.cells.size=size) (cG:0<size)
 (v:aF) (n:Nat) (xs:List aF) (hs:a.eval s=v) (cP:w.ownsRow base e size v n xs) (hv:¬v=.slice none 0 0)
 (ad:bL) (m c:Nat) (news:List aF) (hx:a.eval x=.slice (some ad) m c) (hl:news.length=m*size) (Er:∀j u,news[j]? =some u->w.cell? (ad.add j)=some u) (h1:∀u∈news,u.oneCell'=true)
 (xE:n+m<=maxLen) (xA:(n+m)*bytes<=140737488355328) (rT:base<=w.heap.size)
 (h:∀g cap w',w'.ownsRow base e size (.slice (some ⟨g,0,none⟩) (n+m) cap) (n+m) (xs++news)->w.grownBy w' v.ownBlock->bV base w w'->wpList P ops Q rest (a.put o.dst (.slice (some ⟨g,0,none⟩) (n+m) cap)) w'):wpList P ops Q (o::rest) a w:=
 wpList_plain E8 λ_ hK=>ztR w s x t ho base e i z size bytes ht hi hz wR uQ hzs cG v n xs hs cP hv ad m c news hx hl Er h1 xE xA rT λg cap w' h2 h3 h4=>hK _ _ (h g cap w' h2 h3 h4)
def zwP {K:Act->aE->Prop}{Q:Exit->Act->aE->Prop}{EE:Prop}(E8:o.guard=none)(s x:cM)(t:aM)
 (ho:o.op=.call {callee:=.builtin .append,args:=#[s,x],argTypes:=#[t,t]})
 (base:Nat) (e:aM) (i:wW) (z:aF) (size bytes:Nat) (ht:P.underlying t=some (.slice e)) (hi:P.info? e=some i) (hz:i.zero=some z)
 (wR:i.size=size) (uQ:i.bytes=bytes) (hzs:z.cells.size=size) (cG:0<size)
 (v:aF) (n:Nat) (xs:List aF) (hs:a.eval s=v) (cP:w.ownsRow base e size v n xs) (hv:¬v=.slice none 0 0)
 (ad:bL) (m c:Nat) (news:List aF) (hx:a.eval x=.slice (some ad) m c) (hl:news.length=m*size) (Er:∀j u,news[j]? =some u->w.cell? (ad.add j)=some u) (h1:∀u∈news,u.oneCell'=true)
 (xE:n+m<=maxLen) (xA:(n+m)*bytes<=140737488355328) (rT:base<=w.heap.size)
 (h:∀g cap w',w'.ownsRow base e size (.slice (some ⟨g,0,none⟩) (n+m) cap) (n+m) (xs++news)->w.grownBy w' v.ownBlock->bV base w w'->K (a.put o.dst (.slice (some ⟨g,0,none⟩) (n+m) cap)) w'):
 if dF o (dR ops a.tmps)=true then Bm P o a w K Q else EE:=by
 have hw:dF o (dR ops a.tmps)=true:=by simp[dF,E8]
 rw[if_pos hw];exact ztR w s x t ho base e i z size bytes ht hi hz wR uQ hzs cG v n xs hs cP hv ad m c news hx hl Er h1 xE xA rT h
end
def zvw (xs:List Int):∀u∈eJ xs,u.oneCell'=true:=by
 intro u hu;obtain⟨x,_,rfl⟩:=Ia.1 hu;rfl
def zZ {base n c:Nat}(h:w.ownsRow base E s (.slice A n c) n xs)(hs:0<s):b7 w base w.heap.size s A n c xs:=by
 obtain⟨A',c',e,o⟩:=zmS h hs;injection e with e1 e2 e3;subst e1 e3;exact o.slc
def Wi (u:Nat):List UInt8:=if u=0 then[] else Lg u
def zm4 (k:Nat):ByteArray:=⟨(109::(if k=0 then[48] else Lg k)).toArray⟩
def zCj {u:Nat}(h:0<u):Wi u=Wi (u/10)++[Uy (48+u%10)]:=by
 unfold Wi;rw[if_neg aC];by_cases G7:u<10
 .rw[if_pos aC,zvS G7,Nat.mod_eq_of_lt G7];rfl
 .rw[if_neg aC,Lg,dif_neg G7]
def I9 (a b:Array UInt8):(⟨a⟩:ByteArray)++⟨b⟩=⟨a++b⟩:=by
 apply ByteArray.ext;simp[ByteArray.data_append]
def Nk (hk:k<=100000000):(Lg k).length<=20:=by
 rw[Lib.decDigits_length];exact Lib.nDigits_le20 k aC
def cv1 (w:aE)(x:Nat)(hx:x<=255):(convert 42 9 (.slice (some ⟨w.heap.size,0,none⟩) 1 1)).run aK (w.alloc (.cells #[.int .u8 (x:Int)] 5))=.ok (.string ⟨[Uy x].toArray⟩) (w.alloc (.cells #[.int .u8 (x:Int)] 5)):=
 run_convert_bytes_back (P:=aK) _ 42 9 5 ⟨w.heap.size,0,none⟩ 1 [Uy x] Tryz.underlying42 Tryz.underlying5 Tryz.underlying9 (λj hj=>by
  obtain rfl:j=0:=by simp at hj;omega
  simp[zha];omega)
def zHE (k:Nat)(hk:k<=100000000)(w:aE):
 fN aK 44 #[.int .i64 k] w λe w'=>e=.returned (.string (zm4 k))/\bV w.heap.size w w':=by
 by_cases h0:k=0
 .subst h0
  go_enter zu2,zok
  go_wp2;go_ret;exact⟨rfl,eF _ _⟩
 .go_enter zu2,zok
  go_wp2
  go_loopw [0,3] (λa s wr=>∃(u:Nat) (l:List UInt8),a=.int .i64 u/\s=.string ⟨l.toArray⟩/\u<=100000000/\Wi u++l=Lg k/\bV w.heap.size w wr) (λa _ _=>(intOf a).toNat)
  case atStart=>exact⟨k,[],rfl,rfl,hk,by simp[Wi,h0],eF _ _⟩
  case round=>
   obtain⟨u,l,rfl,rfl,hu,hl,B⟩:=hrel;have HL:=aD hl;by_cases aN:0<u
   .have zbi:=cv1 wr (48+u%10) aC
    rw[show((48+u%10:Nat):Int)=48+(u:Int)%10 by omega] at zbi;have E6:l.length<=20:=by have:=congrArg Zm HL.o;rw[gN] at this;have:=Nk (k:=k) aC;omega
    have HD:=aD (zCj aN);go_wp2;go_roundw
    case rel=>exact⟨u/10,Uy (48+u%10)::l,by first|rfl|(congr 1;omega),by rw[I9];simp,aC,by rw[<-HL.o,HD.o];simp,dN B _⟩
    case measure=>simp[intOf];omega
   .have zGo:u=0:=aC
    subst zGo;have E6:l.length<=20:=by have:=congrArg Zm HL.o;rw[gN] at this;have:=Nk (k:=k) aC;omega
    have HT:=aD (show(⟨#[109]⟩:ByteArray)++⟨l.toArray⟩=zm4 k by rw[I9,zm4,if_neg h0,<-HL.o];simp[Wi]);go_wp2;go_ret;exact⟨by rw[HT.o];rfl,B⟩
end Go.Proofs.YtfcjiloojkjaeaaGreatDoor
namespace Go.Proofs.YtfcjiloojkjaeaaGreatDoor
open Go.Joins Go.ChangeShapes Go.WideShapes Go.RowKit Go.Deep
section
variable {H:Type}{enc:aM×aF->H}{P:bS}{w:aE}{base:Nat}{held:Bool}
def add_plain (b off j:Nat):(bL.mk b off none).add j=⟨b,off+j,none⟩:=by unfold zha;split<;>simp_all
end
end Go.Proofs.YtfcjiloojkjaeaaGreatDoor
namespace Go.Proofs.YtfcjiloojkjaeaaGreatDoor
open Go.RowKit
structure bR where
 c:Int
 l:Int
 o:Int
 f:Int
 h:Int
 t:Int
 e:ByteArray
 deriving DecidableEq
def bR.cells (d:bR):List Value:=[.int .i64 d.c,.int .i64 d.l,.int .i64 d.o,.int .i64 d.f,.int .i64 d.h,.int .i64 d.t,.string d.e]
def recs (ds:List bR):List Value:=ds.flatMap bR.cells
def ztC (ds:List bR):(recs ds).length=ds.length*7:=Fi bR.cells (s:=7) (λ_=>rfl) ds
variable {ds:List bR}{k:Nat}
def zC9 {d:bR}(h:ds[k]? =some d):(recs ds)[k*7+0]? =some (.int .i64 d.c)/\(recs ds)[k*7+1]? =some (.int .i64 d.l)/\(recs ds)[k*7+2]? =some (.int .i64 d.o)/\(recs ds)[k*7+3]? =some (.int .i64 d.f)/\(recs ds)[k*7+4]? =some (.int .i64 d.h)/\(recs ds)[k*7+5]? =some (.int .i64 d.t)/\(recs ds)[k*7+6]? =some (.string d.e):=by
 have e:=λi hi=>H0 bR.cells (s:=7) (λ_=>rfl) ds k i hi;unfold recs;rw[e 0 aC,e 1 aC,e 2 aC,e 3 aC,e 4 aC,e 5 aC,e 6 aC,h];exact⟨rfl,rfl,rfl,rfl,rfl,rfl,rfl⟩
variable {w:aE}{lo hi n c:Nat}{A:Option bL}
def b7.recLen (h:b7 w lo hi 7 A n c (recs ds)):ds.length=n:=by
 have:=h.len;rw[ztC] at this;omega
structure RecAt (w:aE)(b off:Nat)(d:bR):Prop where
 c0:w.cell? ⟨b,off,none⟩=some (.int .i64 d.c)
 c1:w.cell? ⟨b,off+1,none⟩=some (.int .i64 d.l)
 c2:w.cell? ⟨b,off+2,none⟩=some (.int .i64 d.o)
 c3:w.cell? ⟨b,off+3,none⟩=some (.int .i64 d.f)
 c4:w.cell? ⟨b,off+4,none⟩=some (.int .i64 d.h)
 c5:w.cell? ⟨b,off+5,none⟩=some (.int .i64 d.t)
 c6:w.cell? ⟨b,off+6,none⟩=some (.string d.e)
def b7.recAt (h:b7 w lo hi 7 A n c (recs ds))(hk:k<n):
 ∃b off d,A=some ⟨b,off,none⟩/\lo<=b/\b<hi/\b<w.heap.size/\ds[k]? =some d/\RecAt w b (off+k*7) d:=by
 obtain⟨b,off,e,h1,h2,h3,h4⟩:=h.cells hk;have hl:k<ds.length:=by rw[h.recLen];exact hk
 obtain⟨g0,g1,g2,g3,g4,g5,g6⟩:=zC9 (lX hl);exact⟨b,off,ds[k],e,h1,h2,h3,lX hl,⟨h4 0 _ g0,h4 1 _ g1,h4 2 _ g2,h4 3 _ g3,h4 4 _ g4,h4 5 _ g5,h4 6 _ g6⟩⟩
def recP (c l o f h t:Int)(e:List UInt8):Prop:=
 1<=c/\c<=99/\1<=l/\l<=6/\0<=o/\o<=4/\0<=f/\f<=3600/\
  (
   (e=[111,112,101,110]/\t= -1/\((o=0/\h= -1)\/(o≠0/\f<=h/\h<=3600)))\/
   (e=[100,111,110,101]/\o≠0/\f<=h/\h<=t/\t<=3600)\/
   ((e=[108,101,102,116]\/e=[116,105,114,101,100])/\o=0/\h= -1/\f<=t/\t<=3600))
instance (c l o f h t:Int)(e:List UInt8):Decidable (recP c l o f h t e):=by unfold recP;infer_instance
def recB (c l o f h t:Int)(e:List UInt8):Bool:=decide (recP c l o f h t e)
def overP (o f h t:Int)(e:List UInt8):Prop:=
 (e=[100,111,110,101]/\0<o/\f<=h/\h<=t/\t<=3600/\f<=t)\/
  ((e=[108,101,102,116]\/e=[116,105,114,101,100])/\o=0/\h= -1/\f<=t/\t<=3600)
instance (o f h t:Int)(e:List UInt8):Decidable (overP o f h t e):=by unfold overP;infer_instance
def b7.rec7 (h:b7 w lo hi 7 A n c (recs ds))(hk:k<n):
 ∃b off d,A=some ⟨b,off,none⟩/\lo<=b/\b<hi/\b<w.heap.size/\ds[k]? =some d/\w.cell? ⟨b,off+k*7,none⟩=some (.int .i64 d.c)/\w.cell? ⟨b,off+k*7+1,none⟩=some (.int .i64 d.l)/\w.cell? ⟨b,off+k*7+2,none⟩=some (.int .i64 d.o)/\w.cell? ⟨b,off+k*7+3,none⟩=some (.int .i64 d.f)/\w.cell? ⟨b,off+k*7+4,none⟩=some (.int .i64 d.h)/\w.cell? ⟨b,off+k*7+5,none⟩=some (.int .i64 d.t)/\w.cell? ⟨b,off+k*7+6,none⟩=some (.string d.e):=by
 obtain⟨b,off,d,e,h1,h2,h3,hd,⟨c0,c1,c2,c3,c4,c5,c6⟩⟩:=h.recAt hk;exact⟨b,off,d,e,h1,h2,h3,hd,c0,c1,c2,c3,c4,c5,c6⟩
def zra:(aK.info? 50).map (λi=>(i.zero,i.size,i.bytes))=some (some (.agg #[.int .i64 0,.int .i64 0,.int .i64 0,.int .i64 0,.int .i64 0,.int .i64 0,.string ⟨#[]⟩]),7,64):=aQ
variable {α:Type}
def zAF {l:List α}{a:α}(h:l[k]? =some a):l.drop k=a::l.drop (k+1):=by
 obtain⟨hk,e⟩:=kD.1 h;rw[List.drop_eq_getElem_cons hk,e]
def zCs {p:α->Bool}{l:List α}{a:α}(h:∀j,j<k->∀b,l[j]? =some b->p b=true)(hk:l[k]? =some a)(ha:p a=true):∀j,j<k+1->∀b,l[j]? =some b->p b=true:=by
 intro j hj b hb;by_cases e:j=k
 .subst e;rw[hk] at hb;injection hb with hb;subst hb;exact ha
 .exact h j aC b hb
def zBo {p:α->Bool}{l:List α}(h:∀j,j<k->∀b,l[j]? =some b->p b=true)(hk:l.length<=k):l.all p=true:=by
 rw[List.all_eq_true];intro a ha;obtain⟨j,hj,e⟩:=L9.1 ha;exact h j aC a (by rw[lX hj,e])
def zAQ {p:α->Bool}{l:List α}{a:α}(hk:l[k]? =some a)(ha:p a=false):l.all p=false:=by
 rw[List.all_eq_false];exact⟨a,dZ hk,by simp[ha]⟩
structure bJ where
 c:Int
 p:Int
 deriving DecidableEq
def bJ.cells (x:bJ):List Value:=[.int .i64 x.c,.int .i64 x.p]
def bF (xs:List bJ):List Value:=xs.flatMap bJ.cells
structure jG where
 ln:Int
 op:Int
 pt:Int
 deriving DecidableEq
structure dD where
 k:ByteArray
 a:Int
 b:Int
 deriving DecidableEq
def dD.cells (x:dD):List Value:=[.string x.k,.int .i64 x.a,.int .i64 x.b]
def lN (xs:List dD):List Value:=xs.flatMap dD.cells
def eK (d:bR):Bool:=d.e.toList==[111,112,101,110]
def Au (c:Int)(d:bR):Bool:=d.c==c&&eK d
def jL (rs:List bR)(c:Int):Option Nat:=rs.findIdx? (Au c)
def Gu:Option Nat->Int
 |some i=>(i:Int)
 |none=>-1
def wG (op:Int)(d:bR):Bool:=d.o==op&&eK d
def dA (rs:List bR)(op:Int):Int:=match rs.find? (wG op) with|some d=>d.c|none=>0
def rB (rs:List bR)(l:Int):Bool:=rs.any λd=>d.l==l&&eK d
def xO (rs:List bR)(n:Nat):List Int:=((gF n).map λi:Nat=>(i:Int)+1).filter λl=>!rB rs l
def oJ (o:jG)(rs:List bR):List Int:=xO rs o.ln.toNat
def vC (xs:List bJ)(c:Int):Option Nat:=xs.findIdx? λx=>x.c==c
def dX (xs:List bJ)(c:Int):List bJ:=xs.filter λx=>x.c !=c
def uB (xs:List bJ)(c:bJ):List bJ:=xs.takeWhile (λx=>decide (c.p<=x.p))++c::xs.dropWhile (λx=>decide (c.p<=x.p))
structure bX where
 o:jG
 clk:Int
 recs:List bR
 wait:List bJ
 back:List bJ
 log:List (List UInt8)
def Gj:ByteArray:=⟨#[100,111,110,101]⟩
def Cc:ByteArray:=⟨#[108,101,102,116]⟩
def Fc:ByteArray:=⟨#[116,105,114,101,100]⟩
def eU:ByteArray:=⟨#[111,112,101,110]⟩
def Me (b:bX)(i:Nat)(e:ByteArray):List bR:=b.recs.modify i λd=>{d with t:=b.clk,e:=e}
def Gz (rs:List bR)(i:Nat):Int:=match rs[i]? with|some d=>d.c|none=>0
def lE (b:bX)(i:Nat)(e:ByteArray):bX:={b with recs:=Me b i e,wait:=dX b.wait (Gz b.recs i)}
def jK (n:Int):List UInt8:=J9 n
def qB (b:bX)(c:bJ):bX×List UInt8:=
 if(jL b.recs c.c).isSome||(vC b.back c.c).isSome then(b,[107,110,111,119,110])
 else match oJ b.o b.recs with
  |[]=>({b with back:=b.back++[c]},[98,117,115,121])
  |l::_=>({b with recs:=b.recs++[⟨c.c,l,0,b.clk,-1,-1,eU⟩],wait:=uB b.wait c},[108,105,110,101,32]++jK l)
def nO (b:bX)(op:Int):bX×List UInt8:=
 if 0<dA b.recs op then(b,[116,97,108,107,115])
 else match b.wait with
  |[]=>(b,[110,111,110,101])
  |c::_=>match jL b.recs c.c with
   |none=>(b,[])
   |some i=>({b with recs:=b.recs.modify i λd=>{d with o:=op,h:=b.clk},wait:=dX b.wait c.c},[99,97,108,108,32]++jK c.c)
def l6 (b:bX)(op:Int):bX×List UInt8:=
 if 0<dA b.recs op then(b,[116,97,108,107,115])
 else match b.back with
  |[]=>(b,[110,111,110,101])
  |c::_=>match oJ b.o b.recs with
   |[]=>(b,[98,117,115,121])
   |l::_=>({b with back:=dX b.back c.c,recs:=b.recs++[⟨c.c,l,op,b.clk,b.clk,-1,eU⟩]},[99,97,108,108,32]++jK c.c)
def opAt (rs:List bR)(i:Nat):Int:=match rs[i]? with|some d=>d.o|none=>0
def mB (b:bX)(c:Int):bX×List UInt8:=
 match jL b.recs c with
 |some i=>if 0<opAt b.recs i then(lE b i Gj,[100,111,110,101]) else(lE b i Cc,[108,101,102,116])
 |none=>if(vC b.back c).isSome then({b with back:=dX b.back c},[111,102,102]) else(b,[103,111,110,101])
def We (rs:List bR)(i:Nat):Int:=match rs[i]? with|some d=>d.f|none=>0
def l7 (bt:bX×List UInt8)(x:bJ):bX×List UInt8:=
 match jL bt.1.recs x.c with
 |none=>bt
 |some i=>if bt.1.o.pt<=bt.1.clk-We bt.1.recs i then
  ({lE bt.1 i Fc with back:=bt.1.back++[x]},bt.2++[32]++jK x.c) else bt
def uR (b:bX)(m:Int):bX×List UInt8:=b.wait.foldl l7 ({b with clk:=b.clk+m},[97,116,32]++jK (b.clk+m))
def Hz:List UInt8:=[114,105,110,103]
def Kf:List UInt8:=[104,97,110,103]
def Ii:List UInt8:=[97,110,115,119,101,114]
def Hw:List UInt8:=[114,101,116,117,114,110]
def zcM:List UInt8:=[119,97,105,116]
def eN (b:bX)(e:dD):bX×List UInt8:=
 if e.k.toList=Hz then qB b ⟨e.a,e.b⟩ else if e.k.toList=Ii then nO b e.a else if e.k.toList=Hw then l6 b e.a else if e.k.toList=Kf then mB b e.a else uR b e.a
def L8 (ops:Int)(e:dD):Prop:=
 (e.k.toList=Hz/\1<=e.a/\e.a<=99/\0<=e.b/\e.b<=9)\/(e.k.toList=Kf/\1<=e.a/\e.a<=99/\e.b=0)\/((e.k.toList=Ii\/e.k.toList=Hw)/\1<=e.a/\e.a<=ops/\e.b=0)\/(e.k.toList=zcM/\1<=e.a/\e.a<=60/\e.b=0)
instance (ops:Int)(e:dD):Decidable (L8 ops e):=by unfold L8;infer_instance
def sO (ops:Int)(e:dD):Bool:=decide (L8 ops e)
def qJ (o:jG):Bool:=decide (1<=o.ln/\o.ln<=6/\1<=o.op/\o.op<=4/\1<=o.pt/\o.pt<=60)
def jP (o:jG)(es:List dD):Bool:=qJ o&&decide (es.length<=60)&&es.all (sO o.op)
def mP (o:jG):bX:=⟨o,0,[],[],[],[]⟩
def Ed (bt:bX×List UInt8):bX:={bt.1 with log:=bt.1.log++[bt.2]}
def Eu (o:jG)(es:List dD):bX:=es.foldl (λb e=>Ed (eN b e)) (mP o)
def Gx (o:jG)(es:List dD):bX:=if jP o es then Eu o es else mP o
variable {ds:List dD}
def b7.eventsLen (h:b7 w lo hi 3 A n c (lN ds)):ds.length=n:=by
 have h1:=h.len;have h2:=Fi dD.cells (s:=3) (λ_=>rfl) ds;unfold lN at h1;omega
def b7.eventsAt (h:b7 w lo hi 3 A n c (lN ds))(hk:k<n):
 ∃b off d,A=some ⟨b,off,none⟩/\lo<=b/\b<hi/\b<w.heap.size/\ds[k]? =some d/\w.cell? ⟨b,off+k*3,none⟩=some (.string d.k)/\w.cell? ⟨b,off+k*3+1,none⟩=some (.int .i64 d.a)/\w.cell? ⟨b,off+k*3+2,none⟩=some (.int .i64 d.b):=by
 have hl:=h.eventsLen;have hx:ds[k]? =some ds[k]:=lX aC;have g:∀i,i<3->(lN ds)[k*3+i]? =(ds[k].cells)[i]? :=λi hi=>by
  have:=H0 dD.cells (s:=3) (λ_=>rfl) ds k i hi;rw[hx] at this;exact this
 obtain⟨b,off,rfl,h1,h2,h3,h4⟩:=h.cells hk;exact⟨b,off,ds[k],rfl,h1,h2,h3,hx,h4 0 _ (g 0 aH),by rw[X0];exact h4 1 _ (g 1 aH),by rw[X0];exact h4 2 _ (g 2 aH)⟩
def zdY (ds:List dD):(lN ds).length=ds.length*3:=Fi dD.cells (s:=3) (λ_=>rfl) ds
variable {d:dD}
def zs1 (h:ds[k]? =some d):(lN ds)[k*3+0]? =some (.string d.k)/\(lN ds)[k*3+1]? =some (.int .i64 d.a)/\(lN ds)[k*3+2]? =some (.int .i64 d.b):=by
 have e:=λi hi=>H0 dD.cells (s:=3) (λ_=>rfl) ds k i hi;unfold lN;rw[e 0 aC,e 1 aC,e 2 aC,h];exact⟨rfl,rfl,rfl⟩
def zHY {cs:Array aF}(h:ds[k]? =some d)(hs:k*3+3<=cs.size)(hc:∀j,j<k*3->cs[j]? =(lN ds)[j]?):
 ∀j,j<(k+1)*3->(((cs.setIfInBounds (k*3) (.string d.k)).setIfInBounds (k*3+1) (.int .i64 d.a)).setIfInBounds (k*3+2) (.int .i64 d.b))[j]? =(lN ds)[j]? :=by
 intro j hj;obtain⟨g0,g1,g2⟩:=zs1 h;by_cases j2:j=k*3+2
 .subst j2;rw[Ki q8,g2]
 rw[jV aC];by_cases j1:j=k*3+1
 .subst j1;rw[Ki q8,g1]
 rw[jV aC];by_cases j0:j=k*3
 .subst j0;rw[Ki aC];exact g0.symm
 rw[jV aC];exact hc j aC
def b7.eventAt (h:b7 w lo hi 3 A n c (lN ds))(hk:k<n):
 ∃b off d,A=some ⟨b,off,none⟩/\lo<=b/\b<hi/\b<w.heap.size/\ds[k]? =some d/\w.cell? ⟨b,off+k*3,none⟩=some (.string d.k)/\w.cell? ⟨b,off+k*3+1,none⟩=some (.int .i64 d.a)/\w.cell? ⟨b,off+k*3+2,none⟩=some (.int .i64 d.b):=by
 obtain⟨b,off,e,h1,h2,h3,h4⟩:=h.cells hk;have hl:k<ds.length:=by have:=h.len;rw[zdY] at this;omega
 obtain⟨g0,g1,g2⟩:=zs1 (lX hl);exact⟨b,off,ds[k],e,h1,h2,h3,lX hl,h4 0 _ g0,h4 1 _ g1,h4 2 _ g2⟩
def b7.eventLen (h:b7 w lo hi 3 A n c (lN ds)):ds.length=n:=by
 have:=h.len;rw[zdY] at this;omega
def zH3 (d:dD)(w:aE):
 fN aK 41 #[.agg #[.string d.k,.int .i64 d.a,.int .i64 d.b]] w λe w'=>e=.returned (.agg #[.string d.k,.int .i64 d.a,.int .i64 d.b])/\bV w.heap.size w w':=by
 go_enter Tryz.func41,Tryz.ntmps41
 go_wp2;refine bodyPost_ret (v:=.agg #[.string d.k,.int .i64 d.a,.int .i64 d.b]) (by simp[results,Tryz.results41,go_sem]) rfl ⟨rfl,?_⟩;exact dN (dN (dN (eF _ _) _) _) _
def zAw:(aK.info? 54).map (λi=>(i.zero,i.size,i.bytes))=some (some (.agg #[.string ⟨#[]⟩,.int .i64 0,.int .i64 0]),3,32):=aQ
def zDa (n:Nat)(hn:n<=1048576):∃cs:Array aF,cs.size=n*3/\∀w:aE,(zfY 31 (.int .i64 (n:Int)) (.int .i64 (n:Int))).run aK w=.ok (.slice (some ⟨w.heap.size,0,none⟩) n n) (w.alloc (.cells cs 54)):=by
 obtain⟨i,hi,hz,hs,hb⟩:=y8 zAw;refine⟨madeCells (Ta (.agg #[.string ⟨#[]⟩,.int .i64 0,.int .i64 0])) (n*3),size_madeCells _ _,λw=>?_⟩;have:=run_make (P:=aK) w 31 54 i _ Tryz.underlying31 hi hz .i64 .i64 n n aC (Int.le_refl _) (by rw[hb];omega) aC;rw[hs] at this;simpa using this
def zzr (d e:dD)(w:aE):
 fN aK 43 #[.agg #[.string d.k,.int .i64 d.a,.int .i64 d.b],.agg #[.string e.k,.int .i64 e.a,.int .i64 e.b]] w λx w'=>x=.returned (.bool (d==e))/\bV w.heap.size w w':=by
 obtain⟨s,x,y⟩:=d;obtain⟨s',x',y'⟩:=e
 go_enter Tryz.func43,Tryz.ntmps43
 go_wp2
 all_goals go_ret
 all_goals refine⟨D4 ?_,dN (dN (eF _ _) _) _⟩
 all_goals first
  |(symm;rw[beq_eq_false_iff_ne];intro h;injection h with h1 h2 h3;subst h1 h2 h3;simp_all;done)
  |(symm;rw[beq_iff_eq];obtain rfl:s=s':=str_eq (by simp_all);simp_all;done)
def zIB {W W':aE}{a0 a1 a2 b0 b1 b2:bL}{v0 v1 v2 u0 u1 u2:aF}(hb:bV W.heap.size W W')
 (h:W.cell? a0=some v0/\W.cell? a1=some v1/\W.cell? a2=some v2/\W.cell? b0=some u0/\W.cell? b1=some u1/\W.cell? b2=some u2/\bV w.heap.size w W):
 W'.cell? a0=some v0/\W'.cell? a1=some v1/\W'.cell? a2=some v2/\W'.cell? b0=some u0/\W'.cell? b1=some u1/\W'.cell? b2=some u2/\bV w.heap.size w W':=by
 have e:∀{a:bL} {v:aF},W.cell? a=some v->W'.cell? a=some v:=λ{a v} hv=>(De (hb.block _ (zwD W _ hv))).trans hv;exact⟨e h.1,e h.2.1,e h.2.2.1,e h.2.2.2.1,e h.2.2.2.2.1,e h.2.2.2.2.2.1,Yg h.2.2.2.2.2.2 hb⟩
def zJR {W:aE}{a0 a1 a2 b0 b1 b2:bL}{v0 v1 v2 u0 u1 u2:aF}
 (h:W.cell? a0=some v0/\W.cell? a1=some v1/\W.cell? a2=some v2/\W.cell? b0=some u0/\W.cell? b1=some u1/\W.cell? b2=some u2/\bV w.heap.size w W):
 W.drew.cell? a0=some v0/\W.drew.cell? a1=some v1/\W.drew.cell? a2=some v2/\W.drew.cell? b0=some u0/\W.drew.cell? b1=some u1/\W.drew.cell? b2=some u2/\bV w.heap.size w W.drew:=
 ⟨h.1,h.2.1,h.2.2.1,h.2.2.2.1,h.2.2.2.2.1,h.2.2.2.2.2.1,⟨h.2.2.2.2.2.2.os,h.2.2.2.2.2.2.tape,h.2.2.2.2.2.2.output,h.2.2.2.2.2.2.size,h.2.2.2.2.2.2.block⟩⟩
def zFK (lo hi n c x8 gV n' c':Nat)(A A':Option bL)(ds es:List dD)(w:aE)(h:b7 w lo hi 3 A n c (lN ds))(h':b7 w x8 gV 3 A' n' c' (lN es))(hn:n<=1048576)(sV:n'<=1048576):
 fN aK 16 #[.slice A n c,.slice A' n' c'] w λx w'=>x=.returned (.bool (ds==es))/\bV w.heap.size w w':=by
 have hl:=aD h.eventLen;have yH:=aD h'.eventLen;by_cases aT:n=n'
 .subst aT
  go_enter ztF,zqo
  go_wp2
  go_loopw [5] (λi wr=>∃k:Nat,k<=n/\i=.int .i64 k/\bV w.heap.size w wr/\∀j,j<k->ds[j]? =es[j]?) (λi _=>n-(intOf i).toNat)
  case atStart=>exact⟨0,jT _,rfl,eF _ _,λj hj=>absurd hj aC⟩
  case round=>
   obtain⟨k,hk,rfl,B,fV⟩:=hrel;have HC:=aD fV;clear fV;by_cases aN:k<n
   .obtain⟨b,off,d,hA,_,_,h3,eM,fK,pD,xJ⟩:=(h.below B).eventAt aN
    obtain⟨b',O0,e,zyK,_,_,zgW,Co,zfX,zyt,zuz⟩:=(h'.below B).eventAt aN;subst hA zyK;have HX:=aD eM;have zbH:=aD Co;have S0:=And.intro fK (And.intro pD (And.intro xJ (And.intro zfX (And.intro zyt (And.intro zuz B)))));clear eM Co h h' fK pD xJ zfX zyt zuz h3 zgW B;have i0:(0:Int)<=(k:Int):=aC;have i1:(k:Int)<(n:Int):=aC;obtain⟨t,ht⟩:=aU ((d==e));have HT:=aD ht;clear ht
    go_wp2_with fail
    go_region_held3 (λW=>W.cell? ⟨b,off+k*3,none⟩=some (.string d.k)/\W.cell? ⟨b,off+k*3+1,none⟩=some (.int .i64 d.a)/\W.cell? ⟨b,off+k*3+2,none⟩=some (.int .i64 d.b)/\W.cell? ⟨b',O0+k*3,none⟩=some (.string e.k)/\W.cell? ⟨b',O0+k*3+1,none⟩=some (.int .i64 e.a)/\W.cell? ⟨b',O0+k*3+2,none⟩=some (.int .i64 e.b)/\bV w.heap.size w W)
     (first|exact zJR S0|exact zIB Zd Zd)
     (first|(go_at_call 43;refine(zzr d e _).mono ?_;rintro x w2 ⟨rfl,b2⟩;rw[<-HT.o]))
    have S2:bV w.heap.size w w2:=by
     have S1:w2.cell? ⟨b,off+k*3,none⟩=some (.string d.k)/\w2.cell? ⟨b,off+k*3+1,none⟩=some (.int .i64 d.a)/\w2.cell? ⟨b,off+k*3+2,none⟩=some (.int .i64 d.b)/\w2.cell? ⟨b',O0+k*3,none⟩=some (.string e.k)/\w2.cell? ⟨b',O0+k*3+1,none⟩=some (.int .i64 e.a)/\w2.cell? ⟨b',O0+k*3+2,none⟩=some (.int .i64 e.b)/\bV w.heap.size w w2:=by assumption
     exact S1.2.2.2.2.2.2
    clear S0;cases t
    .go_wp2
     go_ret;refine⟨D4 ?_,S2⟩;symm;rw[beq_eq_false_iff_ne];intro hh;subst hh;have:=HX.o.symm.trans zbH.o;injection this with this;subst this;simpa using HT.o
    .go_wp2
     go_roundw
     case rel=>exact⟨k+1,aC,mV,S2,λj hj=>by
      by_cases e:j=k
      .subst e;rw[HX.o,zbH.o,eq_of_beq HT.o.symm]
      .exact HC.o j aC⟩
     case measure=>simp[intOf];omega
   .have e:k=n:=aC
    subst e;clear h h';go_wp2;go_ret;exact⟨D4 (by
     symm;rw[beq_iff_eq];apply Sw;intro j;rcases nC j k with hj|hj
     .exact HC.o j hj
     .rw[Ca (by rw[hl.o];exact hj),Ca (by rw[yH.o];exact hj)]),B⟩
 .have hq:((n:Int) !=(n':Int))=true:=by rw[bne_iff_ne];omega
  clear h h';have HN:=aD aT;clear aT
  go_enter ztF,zqo
  go_wp2;go_ret;exact⟨D4 zyl,eF _ _⟩
def Hd (l:Int):List dD->Int
 |[]=>l
 |d::ds=>if l<d.k.size then-1 else Hd (l-d.k.size) ds
def Hr (l:Int)(n:Nat)(ds:List dD):Int:=if l<n then-1 else Hd (l-n) ds
def zBU :∀{l:Int},0<=l->Hd l ds<=l:=by
 induction ds with
 |nil=>intro l h0;rw[Hd];omega
 |cons d ds ih=>
  intro l h0;rw[Hd];split
  .omega
  .have:=ih (l:=l-d.k.size) aC;omega
def zy9 :∀{l:Int},0<=Hd l ds->l<=1048576->∀d∈ds,d.k.size<=1048576:=by
 induction ds with
 |nil=>intro l _ _ d hd;cases hd
 |cons q ds ih=>
  intro l h hl d hd;rw[Hd] at h;split at h
  .omega
  .rcases jJ.1 hd with e|hd
   .subst e;omega
   .exact ih h aC d hd
variable {l:Int}
def zHG (h:0<=Hr l n ds)(hl:l<=1048576):n<=1048576/\∀d∈ds,d.k.size<=1048576:=by
 unfold Hr at h;split at h
 .omega
 .exact⟨aC,zy9 h aC⟩
def zy3 (h:0<=l):Hr l n ds<=l:=by
 unfold Hr;split
 .omega
 .have:=zBU (ds:=ds) (l:=l-n) aC;omega
def zwF (d:dD)(l:Int)(w:aE)(h0:0<=l)(h1:l<=1048576)(hs:d.k.size<=maxLen):
 fN aK 39 #[.agg #[.string d.k,.int .i64 d.a,.int .i64 d.b],.int .i64 l] w λe w'=>e=.returned (.int .i64 (if l<d.k.size then-1 else l-d.k.size))/\bV w.heap.size w w':=by
 unfold maxLen at hs;by_cases hl:l<d.k.size
 .rw[if_pos hl]
  have hx:l-d.k.size<0:=aC
  go_enter zw6,zqV
  go_wp2;go_ret;exact⟨rfl,dN (eF _ _) _⟩
 .rw[if_neg hl]
  have hx:0<=l-d.k.size:=aC
  go_enter zw6,zqV
  go_wp2;go_ret;exact⟨rfl,dN (eF _ _) _⟩
def zHc (lo hi n c:Nat)(A:Option bL)(ds:List dD)(l:Int)(w:aE)(h:b7 w lo hi 3 A n c (lN ds))(hd:∀d∈ds,d.k.size<=maxLen)(h0:0<=l)(h1:l<=1048576):
 fN aK 10 #[.slice A n c,.int .i64 l] w λe w'=>e=.returned (.int .i64 (Hr l n ds))/\bV w.heap.size w w':=by
 have qR:=h.le;have nK:=h.cap;unfold maxLen at nK;by_cases hl:l<n
 .have hx:l-n<0:=aC
  have H:=aD (if_pos hl:Hr l n ds= -1)
  go_enter zsG,zvv
  go_wp2;go_ret;exact⟨As H.o.symm,eF _ _⟩
 .have hx:0<=l-n:=aC
  have H:=aD (if_neg hl:Hr l n ds=Hd (l-n) ds);have HL:=aD h.eventLen;have HD:=aD hd
  go_enter zsG,zvv
  go_wp2
  go_loopw [1,5] (λq i wr=>∃(k:Nat) (m:Int),k<=n/\q=.int .i64 m/\i=.int .i64 k/\0<=m/\m<=1048576/\Hd m (ds.drop k)=Hd (l-n) ds/\bV w.heap.size w wr) (λ_ i _=>n-(intOf i).toNat)
  case atStart=>exact⟨0,l-n,jT _,rfl,rfl,aC,aC,aO,eF _ _⟩
  case round=>
   obtain⟨k,m,hk,rfl,rfl,m0,m1,hs,B⟩:=hrel;by_cases aN:k<n
   .obtain⟨b,off,d,rfl,_,_,h3,eM,fK,pD,xJ⟩:=(h.below B).eventAt aN
    rw[zAF eM,Hd] at hs;have uW:=HD.o d (dZ eM);by_cases hm:m<d.k.size
    .rw[if_pos hm] at hs
     have HS:=aD hs
     go_wp2_with fail
     refine(zwF d m _ m0 m1 uW).mono ?_;rintro e w1 ⟨rfl,b1⟩;rw[if_pos hm];have B1:=Yg B b1;go_wp2;go_ret;exact⟨As (HS.o.trans H.o.symm),B1⟩
    .rw[if_neg hm] at hs
     have HS:=aD hs;have Ml:0<=m-d.k.size:=aC
     go_wp2_with fail
     refine(zwF d m _ m0 m1 uW).mono ?_;rintro e w1 ⟨rfl,b1⟩;rw[if_neg aC];have B1:=Yg B b1;go_wp2;go_roundw
     case rel=>exact⟨k+1,m-d.k.size,aC,rfl,mV,aC,aC,HS.o,B1⟩
     case measure=>simp[intOf];omega
   .have e:k=n:=aC
    subst e;rw[List.drop_of_length_le (by rw[HL.o];exact aX _),Hd] at hs;have HS:=aD hs;go_wp2;go_ret;exact⟨As (HS.o.trans H.o.symm),B⟩
def zCC (lo hi n c:Nat)(A:Option bL)(xs:List aF)(k0:Nat)(w:aE)(h:rJ 54 3 w lo hi A n c xs)(hn:n<=1048576)(jC:k0<=10000000):
 fN aK 17 #[.slice A n c,.int .i64 k0] w λe w'=>e=.returned (.int .i64 ((k0+3*n:Nat):Int))/\qI lo hi w w':=by
 by_cases zlM:n=0
 .subst zlM
  go_enter zxZ,zqp
  go_wp2
  go_loopw [1,5] (λq i wr=>q=.int .i64 k0/\i=.int .i64 0/\wr=w) (λ_ _ _=>0)
  case atStart=>exact⟨rfl,rfl,rfl⟩
  case round=>
   obtain⟨rfl,rfl,rfl⟩:=hrel;go_wp2;go_ret;exact⟨rfl,qI.refl _ _ _⟩
 .obtain⟨b,xP,rfl,G6,O1⟩:=h.blk aC
  obtain⟨b',O0,he,dW,Se,aN,_⟩:=h.slc.at_ aC;simp only[gA,zvX,and_true] at he;obtain⟨rfl,rfl⟩:=he;have Ng:=aD G6;have zzq:=aD O1
  go_enter zxZ,zqp
  go_wp2
  go_loopw [1,5] (λq i wr=>∃k:Nat,k<=n/\q=.int .i64 ((k0+3*k:Nat):Int)/\i=.int .i64 k/\qI lo hi w wr/\∃cs:Array aF,wr.heap[b]? =some (.cells cs 54)/\n*3<=cs.size) (λ_ i _=>n-(intOf i).toNat)
  case atStart=>exact⟨0,jT _,rfl,rfl,qI.refl _ _ _,xP,Ng.o,zzq.o⟩
  case round=>
   obtain⟨k,hk,rfl,rfl,C,cs,hb,fV⟩:=hrel;by_cases zMf:k<n
   .have Wp:=aD fV
    have zjY:=fP hb
    go_wp2_with fail
    refine(zHE (k0+3*k) aC _).mono ?_;rintro e w1 ⟨rfl,b1⟩;obtain⟨uL,z1⟩:=eI b1 hb;have C1:=C.trans (qI.of_below b1);have e0:=aJ uL (k*3);have e1:=aJ uL (k*3+1);have e2:=aJ uL (k*3+2);have hf:=eL uL;rw[mE (by have:=Wp.o;omega)] at e0 e1 e2;have rC:=aD uL;obtain⟨q,hq⟩:=aU (k0+3*k);rw[<-hq];have zLa:q<=20000000:=aC;have HQ:=aD hq;go_wp2;go_roundw
    case rel=>exact⟨k+1,aC,by rw[show k0+3*(k+1)=q+3 by have:=HQ.o;omega];go_num,mV,((C1.setCell dW Se _).setCell dW Se _).setCell dW Se _,_,nH (nH (nH rC.o _) _) _,by simp;exact Wp.o⟩
    case measure=>simp[intOf];omega
   .have e:k=n:=aC
    subst e;go_wp2;go_ret;exact⟨rfl,C⟩
end Go.Proofs.YtfcjiloojkjaeaaGreatDoor
namespace Go.Proofs.YtfcjiloojkjaeaaGreatDoor
open Go.Joins Go.ChangeShapes Go.WideShapes Go.RowKit Go.Deep
section
variable {H:Type}{enc:aM×aF->H}{P:bS}{w:aE}{base:Nat}{held:Bool}
variable {A:Option bL}{p:List zte}
def zBV {α:Type}[Inhabited α](f:α->List aF)(Q:α->Prop){s:Nat}(hs:0<s)(hf:∀a,(f a).length=s){t e:aM}{len cap:Nat}{d:DataW H}(ht:P.underlying t=some (.slice e))(hc:P.cellsOf e=s)
 (Ck:∀(n:Nat) (cs:List aF) (x:DataW H×List zte),DataW.trod enc P w base (λ_=>true) held n e cs=some x->cs.length=s->∃a,cs=f a/\Q a)
 (h:zrw enc P w base (λ_=>true) held t (.slice A len cap) d p):∃ds:List α,b7 w 0 w.heap.size s A len cap (ds.flatMap f)/\∀d∈ds,Q d:=by
 obtain⟨fuel,Az⟩:=h;rcases open_slice ht Az with⟨fV,_⟩|⟨a,len',O3,m,n,D,Pl,fV,_,hl,hm,Ml,_,hx⟩
 .simp[Ta] at fV
  obtain⟨rfl,rfl,rfl⟩:=fV;exact⟨[],⟨aO,aX _,jT _,λh0=>absurd h0 aC⟩,λd hd=>by cases hd⟩
 .simp[Ta] at fV
  obtain⟨rfl,rfl,rfl⟩:=fV;simp at Ml;subst Ml;rw[hc] at hx
  obtain⟨V,hV⟩:=choose_lt (α:=α) (n:=len) (p:=λi v=>(∀j u,(f v)[j]? =some u->w.cell? ((a.add (i*s)).add j)=some u)/\Q v) (λi hi=>by
   obtain⟨Vd,h1,h2⟩:=hx i aC;obtain⟨_,hlen,zGv⟩:=aE.cells?_some h1;obtain⟨v,rfl,hQ⟩:=Ck n Vd _ h2 hlen;refine⟨v,λj u hu=>?_,hQ⟩;have hj:j<s:=by rw[<-hf v];exact(kD.1 hu).1
   have:=zGv j hj;rw[this,hu])
  refine⟨(gF len).map V,⟨by rw[Fi f hf];simp,hl,hm,λh0=>?_⟩,λd hd=>?_⟩
  rotate_left
  .obtain⟨i,hi,rfl⟩:=Ia.1 hd
   exact(hV i (List.mem_range.1 hi)).2
  obtain⟨b,off,spot⟩:=a;have hg:∀i,i<len->∀j u,(f (V i))[j]? =some u->w.cell? (((⟨b,off,spot⟩:bL).add (i*s)).add j)=some u:=λi hi=>(hV i hi).1;have zG6:spot=none:=by
   obtain⟨u,hu⟩:∃u,(f (V 0))[0]? =some u:=⟨_,lX (by rw[hf];exact hs)⟩;have h1:=hg 0 h0 0 u hu;rw[zbX] at h1;simpa[zha] using aE.cell?_spot h1
  subst zG6;have hb:b<w.heap.size:=by
   obtain⟨u,hu⟩:∃u,(f (V 0))[0]? =some u:=⟨_,lX (by rw[hf];exact hs)⟩;have h1:=hg 0 h0 0 u hu;have:=zwD w _ h1;rw[add_plain,add_plain] at this;exact this
  refine⟨b,off,rfl,jT _,hb,hb,λj v hv=>?_⟩;obtain⟨i,k,rfl,hk⟩:∃i k,j=i*s+k/\k<s:=⟨j/s,j%s,by rw[Nat.mul_comm];exact(Nat.div_add_mod j s).symm,Nat.mod_lt _ hs⟩;rw[H0 f hf _ i k hk] at hv;obtain⟨x,D5,Ak⟩:=Option.bind_eq_some_iff.1 hv;rw[List.getElem?_map] at D5;obtain⟨i',gV,rfl⟩:=Option.map_eq_some_iff.1 D5;have Bw:i<len:=by
   have:=(kD.1 gV).1;simpa using this
  have:i'=i:=by rw[List.getElem?_range Bw] at gV;injection gV with gV;exact gV.symm
  subst this;have:=hg i' Bw k v Ak;rw[add_plain,add_plain] at this;rw[<-this,X0]
def zIR {t e:aM}{f0 f1 f2:Field}{len cap:Nat}{d:DataW H}(ht:P.underlying t=some (.slice e))(hc:P.cellsOf e=3)(he:P.underlying e=some (.struct #[f0,f1,f2]))
 (o0:f0.offset=0) (o1:f1.offset=1) (o2:f2.offset=2) (h0:P.underlying f0.type=some .string) (h1:P.underlying f1.type=some (.int .i64)) (h2:P.underlying f2.type=some (.int .i64)) (c0:P.cellsOf f0.type=1) (c1:P.cellsOf f1.type=1) (c2:P.cellsOf f2.type=1)
 (h:zrw enc P w base (λ_=>true) held t (.slice A len cap) d p):∃ds:List dD,b7 w 0 w.heap.size 3 A len cap (lN ds)/\∀d∈ds,d.k.size<=maxLen:=by
 letI:Inhabited dD:=⟨⟨⟨#[]⟩,0,0⟩⟩
 refine zBV dD.cells (λd=>d.k.size<=maxLen) aH (λ_=>rfl) ht hc ?_ h;intro n cs x hx hl;obtain⟨xs,m,_,_,_,hlen,hg⟩:=DataW.trod_struct he hx
 match cs,hl with
 |[x0,x1,x2],_=>
  match xs,hlen with
  |[y0,y1,y2],_=>
   have g0:=hg 0 f0 rfl;have g1:=hg 1 f1 rfl;have g2:=hg 2 f2 rfl;rw[o0,c0] at g0;rw[o1,c1] at g1;rw[o2,c2] at g2;obtain⟨s,e0,_,hs⟩:=DataW.trod_string h0 g0;obtain⟨a,e1,_,_⟩:=Xl h1 g1;obtain⟨b,e2,_,_⟩:=Xl h2 g2;simp at e0 e1 e2;subst e0 e1 e2;exact⟨⟨s,a,b⟩,rfl,hs⟩
end
end Go.Proofs.YtfcjiloojkjaeaaGreatDoor
namespace Go.Proofs.YtfcjiloojkjaeaaGreatDoor
open Go.ChangeShapes Go.WideShapes Go.ChangeAt Go.RowKit
section
variable {P:bS}{w:aE}{base:Nat}
def zFG {t e:aM}{A:Option bL}{n c:Nat}{r:Reach}(ht:P.underlying t=some (.slice e))(h:ztg P w r base t (.slice A n c)):∀a,A=some a->a.spot=none/\∃cs T fz,w.heap[a.block]? =some (.cells cs T fz):=by
 intro a e;subst e;simp only[ztg,ht,Cell.okWide,Cell.ok,aE.has] at h;obtain⟨_,_,_,Iv,row,cells,lL,_⟩:=h;refine⟨Iv,?_⟩;unfold zcq at lL;split at lL
 .rename_i cs T fz hb
  exact⟨cs,T,fz,hb⟩
 .cases lL
end
end Go.Proofs.YtfcjiloojkjaeaaGreatDoor
namespace Go.Proofs.YtfcjiloojkjaeaaGreatDoor
open Go.RowKit
def txt (l:List UInt8):Value:=.string ⟨l.toArray⟩
def Fx (ss:List (List UInt8)):List Value:=ss.map txt
def zCw (lo hi n c:Nat)(A:Option bL)(k0:Int)(w:aE)(h:b7 w lo hi 1 A n c (eJ (N0 k0 n)))(hn:n<=1048576)(jC:0<=k0)(nZ:k0<=100000000000):
 fN aK 24 #[.slice A n c,.int .i64 k0] w λe w'=>e=.returned (.int .i64 (k0+n))/\w'=w:=by
 go_enter Tryz.func24,Tryz.ntmps24
 go_wp2
 go_loop [1,5] (λq i=>∃k:Nat,k<=n/\q=.int .i64 (k0+k)/\i=.int .i64 k) (λ_ i=>n-(intOf i).toNat)
 case atStart=>exact⟨0,jT _,aO,rfl⟩
 case round=>
  obtain⟨k,hk,rfl,rfl⟩:=hrel;by_cases aN:k<n
  .obtain⟨b,off,v,rfl,_,_,h3,eM,hv⟩:=h.cellAt aN
   rw[zqZ aN] at eM;injection eM with eM;subst eM;clear h;go_wp2
   go_round
   case rel=>exact⟨k+1,aC,mV,mV⟩
   case measure=>simp[intOf];omega
  .have e:k=n:=aC
   subst e;clear h;go_wp2;go_ret;exact⟨rfl,rfl⟩
variable {w:aE}{lo hi n c:Nat}{A:Option bL}{ds:List bJ}
def b7.callsLen (h:b7 w lo hi 2 A n c (bF ds)):ds.length=n:=by
 have h1:=h.len;have h2:=Fi bJ.cells (s:=2) (λ_=>rfl) ds;unfold bF at h1;omega
variable {k:Nat}
def b7.callsAt (h:b7 w lo hi 2 A n c (bF ds))(hk:k<n):
 ∃b off d,A=some ⟨b,off,none⟩/\lo<=b/\b<hi/\b<w.heap.size/\ds[k]? =some d/\w.cell? ⟨b,off+k*2,none⟩=some (.int .i64 d.c)/\w.cell? ⟨b,off+k*2+1,none⟩=some (.int .i64 d.p):=by
 have hl:=h.callsLen;have hx:ds[k]? =some ds[k]:=lX aC;have g:∀i,i<2->(bF ds)[k*2+i]? =(ds[k].cells)[i]? :=λi hi=>by
  have:=H0 bJ.cells (s:=2) (λ_=>rfl) ds k i hi;rw[hx] at this;exact this
 obtain⟨b,off,rfl,h1,h2,h3,h4⟩:=h.cells hk;exact⟨b,off,ds[k],rfl,h1,h2,h3,hx,h4 0 _ (g 0 aH),by rw[X0];exact h4 1 _ (g 1 aH)⟩
variable {W0:aE}{a1 a2:bL}{v1 v2:aF}
def rG {W:aE}(h:W.cell? a1=some v1/\W.cell? a2=some v2/\bV W0.heap.size W0 W):bV W0.heap.size W0 W:=h.2.2
def zti {W':aE}(z1:a1.block<W0.heap.size)(z2:a2.block<W0.heap.size)(h1:W0.cell? a1=some v1)(h2:W0.cell? a2=some v2)(hb:bV W0.heap.size W0 W'):W'.cell? a1=some v1/\W'.cell? a2=some v2/\bV W0.heap.size W0 W':=
 ⟨(De (hb.block _ z1)).trans h1,(De (hb.block _ z2)).trans h2,hb⟩
section
variable {P:bS}(w:aE)
def zCh (t ty:aM)(base:Nat)(e:aM)(i:wW)(z:aF)(size bytes:Nat)(ht:P.underlying t=some (.slice e))(hi:P.info? e=some i)(hz:i.zero=some z)
 (wR:i.size=size) (uQ:i.bytes=bytes) (hzs:z.cells.size=size) (cG:0<size)
 (g0 n c0:Nat) (xs:List aF) (cP:w.ownsRow base e size (.slice (some ⟨g0,0,none⟩) n c0) n xs)
 (A:Option bL) (m c lo gV:Nat) (news:List aF) (hs:b7 w lo gV size A m c news) (h1:∀u∈news,u.oneCell'=true)
 (xE:n+m<=maxLen) (xA:(n+m)*bytes<=140737488355328) (rT:base<=w.heap.size):
 ∃g cap w',(xG #[t,t] ty #[.slice (some ⟨g0,0,none⟩) n c0,.slice A m c]).run P w=.ok (.slice (some ⟨g,0,none⟩) (n+m) cap) w'/\
  w'.ownsRow base e size (.slice (some ⟨g,0,none⟩) (n+m) cap) (n+m) (xs++news)/\w.grownBy w' (D8 (.slice (some ⟨g0,0,none⟩) n c0))/\bV base w w':=by
 cases A with
 |none=>
  have hm:m=0:=by
   rcases Nat.eq_zero_or_pos m with h|h
   .exact h
   .obtain⟨b,off,e,_⟩:=hs.at_ h;cases e
  subst hm;have oX:news=[]:=by have:=hs.len;simp at this;exact this
  subst oX;have hle:n<=c0:=by
   obtain⟨_,h|⟨b,cap,cur,e,h1,h2,h3,_⟩⟩:=cP
   .cases h.1
   .injection e with _ _ e;omega
  have hr:=run_append_room_src (P:=P) w t t ty e i ht hi g0 0 n c0 (.slice none 0 c) 0 [] (Src.ofNil (P:=P) (e':=e) w ht c) aC (by intro j hj;simp at hj) (by intro j hj;simp at hj);refine⟨g0,c0,w,by simpa[aE.setCells] using hr,by simpa using cP,⟨rfl,rfl,rfl,aX _,λ_ _ _=>rfl⟩,eF _ _⟩
 |some ad=>
  by_cases hm:0<m
  .obtain⟨b,off,e',_,_,_,h4⟩:=hs.at_ hm
   injection e' with e';subst e';exact zmw w t ty base e i z size bytes ht hi hz wR uQ hzs cG _ n xs cP aO _ m c news hs.len (λj u hu=>by rw[bL.add_lit];exact h4 j u hu) h1 xE xA rT
  .obtain rfl:m=0:=aC
   have oX:news=[]:=by have:=hs.len;simp at this;exact this
   subst oX;exact zmw w t ty base e i z size bytes ht hi hz wR uQ hzs cG _ n xs cP aO _ 0 c [] aO (λj u hu=>by simp at hu) (λu hu=>by cases hu) xE xA rT
variable {o:aZ}{a:Act}
def zHa {K:Act->aE->Prop}{Q:Exit->Act->aE->Prop}(s x:cM)(t:aM)
 (ho:o.op=.call {callee:=.builtin .append,args:=#[s,x],argTypes:=#[t,t]})
 (base:Nat) (e:aM) (i:wW) (z:aF) (size bytes:Nat) (ht:P.underlying t=some (.slice e)) (hi:P.info? e=some i) (hz:i.zero=some z)
 (wR:i.size=size) (uQ:i.bytes=bytes) (hzs:z.cells.size=size) (cG:0<size)
 (g0 n c0:Nat) (xs:List aF) (zjb:a.eval s=.slice (some ⟨g0,0,none⟩) n c0) (cP:w.ownsRow base e size (.slice (some ⟨g0,0,none⟩) n c0) n xs)
 (A:Option bL) (m c lo gV:Nat) (news:List aF) (hx:a.eval x=.slice A m c) (hs:b7 w lo gV size A m c news) (h1:∀u∈news,u.oneCell'=true)
 (xE:n+m<=maxLen) (xA:(n+m)*bytes<=140737488355328) (rT:base<=w.heap.size)
 (h:∀g cap w',w'.ownsRow base e size (.slice (some ⟨g,0,none⟩) (n+m) cap) (n+m) (xs++news)->w.grownBy w' (D8 (.slice (some ⟨g0,0,none⟩) n c0))->bV base w w'->K (a.put o.dst (.slice (some ⟨g,0,none⟩) (n+m) cap)) w'):o.wp P a w K Q:=by
 obtain⟨g,cap,w',hr,h2,h3,h4⟩:=zCh (P:=P) w t o.type base e i z size bytes ht hi hz wR uQ hzs cG g0 n c0 xs cP A m c lo gV news hs h1 xE xA rT;unfold Bm execOp;simp only[ho,resolve,invoke,builtin,Eg,Iu,Fq,uI,fO,tW,zjb,hx,hr];exact h g cap w' h2 h3 h4
def zf3 {ops:Array aZ}{K:Act->aE->Prop}{Q:Exit->Act->aE->Prop}{EE:Prop}(hw:dF o (dR ops a.tmps)=true)(s x:cM)(t:aM)
 (ho:o.op=.call {callee:=.builtin .append,args:=#[s,x],argTypes:=#[t,t]})
 (base:Nat) (e:aM) (i:wW) (z:aF) (size bytes:Nat) (ht:P.underlying t=some (.slice e)) (hi:P.info? e=some i) (hz:i.zero=some z)
 (wR:i.size=size) (uQ:i.bytes=bytes) (hzs:z.cells.size=size) (cG:0<size)
 (g0 n c0:Nat) (xs:List aF) (zjb:a.eval s=.slice (some ⟨g0,0,none⟩) n c0) (cP:w.ownsRow base e size (.slice (some ⟨g0,0,none⟩) n c0) n xs)
 (A:Option bL) (m c lo gV:Nat) (news:List aF) (hx:a.eval x=.slice A m c) (hs:b7 w lo gV size A m c news) (h1:∀u∈news,u.oneCell'=true)
 (xE:n+m<=maxLen) (xA:(n+m)*bytes<=140737488355328) (rT:base<=w.heap.size)
 (h:∀g cap w',w'.ownsRow base e size (.slice (some ⟨g,0,none⟩) (n+m) cap) (n+m) (xs++news)->w.grownBy w' (D8 (.slice (some ⟨g0,0,none⟩) n c0))->bV base w w'->K (a.put o.dst (.slice (some ⟨g,0,none⟩) (n+m) cap)) w'):
 if dF o (dR ops a.tmps)=true then Bm P o a w K Q else EE:=by
 rw[if_pos hw];exact zHa w s x t ho base e i z size bytes ht hi hz wR uQ hzs cG g0 n c0 xs zjb cP A m c lo gV news hx hs h1 xE xA rT h
end
variable {α:Type}
def zcz {p:α->Bool}:∀{l:List α} {k:Nat} {a:α},l[k]? =some a->p a=true->(∀j,j<k->∀b,l[j]? =some b->p b=false)->l.findIdx? p=some k
 |[],k,a,h,_,_=>by simp at h
 |x::xs,0,a,h,ha,_=>by
  simp at h;subst h;rw[zox,if_pos ha]
 |x::xs,k+1,a,h,ha,hn=>by
  have hx:=hn 0 aC x rfl;rw[zox,hx,zcz (l:=xs) (k:=k) zgM ha (λj hj b hb=>hn (j+1) aC b zd4)];simp
def zk8 {p:α->Bool}{l:List α}(hn:∀j,j<k->∀b,l[j]? =some b->p b=false)(hk:l.length<=k):l.findIdx? p=none:=by
 rw[List.findIdx?_eq_none_iff];intro x hx;obtain⟨j,hj,e⟩:=L9.1 hx;exact hn j aC x (by rw[lX hj,e])
def zu4 {p:α->Bool}:∀{l:List α} {k:Nat} {a:α},l[k]? =some a->p a=true->(∀j,j<k->∀b,l[j]? =some b->p b=false)->l.find? p=some a
 |[],k,a,h,_,_=>by simp at h
 |x::xs,0,a,h,ha,_=>by
  simp at h;subst h;rw[zrM,ha]
 |x::xs,k+1,a,h,ha,hn=>by
  have hx:=hn 0 aC x rfl;rw[zrM,hx];exact zu4 (l:=xs) (k:=k) zgM ha (λj hj b hb=>hn (j+1) aC b zd4)
def zCQ {p:α->Bool}{l:List α}(hn:∀j,j<k->∀b,l[j]? =some b->p b=false)(hk:l.length<=k):l.find? p=none:=by
 rw[List.find?_eq_none];intro x hx;obtain⟨j,hj,e⟩:=L9.1 hx;rw[hn j aC x (by rw[lX hj,e])];simp
def S7 {p:α->Bool}{l:List α}{a:α}(h:∀j,j<k->∀b,l[j]? =some b->p b=false)(hk:l[k]? =some a)(ha:p a=false):∀j,j<k+1->∀b,l[j]? =some b->p b=false:=by
 intro j hj b hb;by_cases e:j=k
 .subst e;rw[hk] at hb;injection hb with hb;exact hb▸ha
 .exact h j aC b hb
def Le (lo hi n c:Nat)(A:Option bL)(rs:List bR)(q:Int)(w:aE)(h:b7 w lo hi 7 A n c (recs rs))(hn:n<=1048576):
 fN aK 91 #[.slice A n c,.int .i64 q] w λe w'=>e=.returned (.int .i64 (Gu (jL rs q)))/\w'=w:=by
 have hl:=aD h.recLen
 go_enter Tryz.func91,Tryz.ntmps91
 go_wp2
 go_loop [5] (λi=>∃k:Nat,k<=n/\i=.int .i64 k/\∀j,j<k->∀b,rs[j]? =some b->Au q b=false) (λi=>n-(intOf i).toNat)
 case atStart=>exact⟨0,jT _,rfl,λj hj=>absurd hj aC⟩
 case round=>
  obtain⟨k,hk,rfl,fV⟩:=hrel;have HC:=aD fV;by_cases aN:k<n
  .obtain⟨b,off,d,hA,_,_,h3,eM,fK,pD,xJ,Jz,Kt,nJ,zgL⟩:=h.rec7 aN
   subst hA;have HX:=aD eM;have i0:(0:Int)<=(k:Int):=aC;have i1:(k:Int)<(n:Int):=aC;cases hq:(d.c==q)
   .have HP:=aD (show Au q d=false by unfold Au;rw[hq];rfl)
    go_wp2
    go_round
    case rel=>exact⟨k+1,aC,mV,S7 HC.o HX.o HP.o⟩
    case measure=>simp[intOf];omega
   .cases hd:(d.e.toList==[111,112,101,110])
    .have HP:=aD (show Au q d=false by unfold Au eK;rw[hq,hd];rfl)
     go_wp2
     go_round
     case rel=>exact⟨k+1,aC,mV,S7 HC.o HX.o HP.o⟩
     case measure=>simp[intOf];omega
    .have HP:=aD (show Au q d=true by unfold Au eK;rw[hq,hd];rfl)
     go_wp2;go_ret;exact⟨As (by unfold jL;rw[zcz HX.o HP.o HC.o];rfl),rfl⟩
  .have e:k=n:=aC
   subst e;go_wp2;go_ret;exact⟨As (by unfold jL;rw[zk8 HC.o zg5];rfl),rfl⟩
def On (lo hi n c:Nat)(A:Option bL)(rs:List bR)(q:Int)(w:aE)(h:b7 w lo hi 7 A n c (recs rs))(hn:n<=1048576):
 fN aK 45 #[.slice A n c,.int .i64 q] w λe w'=>e=.returned (.int .i64 (dA rs q))/\w'=w:=by
 have hl:=aD h.recLen
 go_enter Tryz.func45,Tryz.ntmps45
 go_wp2
 go_loop [5] (λi=>∃k:Nat,k<=n/\i=.int .i64 k/\∀j,j<k->∀b,rs[j]? =some b->wG q b=false) (λi=>n-(intOf i).toNat)
 case atStart=>exact⟨0,jT _,rfl,λj hj=>absurd hj aC⟩
 case round=>
  obtain⟨k,hk,rfl,fV⟩:=hrel;have HC:=aD fV;by_cases aN:k<n
  .obtain⟨b,off,d,hA,_,_,h3,eM,fK,pD,xJ,Jz,Kt,nJ,zgL⟩:=h.rec7 aN
   subst hA;have HX:=aD eM;have i0:(0:Int)<=(k:Int):=aC;have i1:(k:Int)<(n:Int):=aC;cases hq:(d.o==q)
   .have HP:=aD (show wG q d=false by unfold wG;rw[hq];rfl)
    go_wp2
    go_round
    case rel=>exact⟨k+1,aC,mV,S7 HC.o HX.o HP.o⟩
    case measure=>simp[intOf];omega
   .cases hd:(d.e.toList==[111,112,101,110])
    .have HP:=aD (show wG q d=false by unfold wG eK;rw[hq,hd];rfl)
     go_wp2
     go_round
     case rel=>exact⟨k+1,aC,mV,S7 HC.o HX.o HP.o⟩
     case measure=>simp[intOf];omega
    .have HP:=aD (show wG q d=true by unfold wG eK;rw[hq,hd];rfl)
     go_wp2;go_ret;exact⟨As (by unfold dA;rw[zu4 HX.o HP.o HC.o]),rfl⟩
  .have e:k=n:=aC
   subst e;go_wp2;go_ret;exact⟨As (by unfold dA;rw[zCQ HC.o zg5]),rfl⟩
def zci (lo hi n c:Nat)(A:Option bL)(xs:List bJ)(q:Int)(w:aE)(h:b7 w lo hi 2 A n c (bF xs))(hn:n<=1048576):
 fN aK 92 #[.slice A n c,.int .i64 q] w λe w'=>e=.returned (.int .i64 (Gu (vC xs q)))/\w'=w:=by
 have hl:=aD h.callsLen
 go_enter Tryz.func92,Tryz.ntmps92
 go_wp2
 go_loop [5] (λi=>∃k:Nat,k<=n/\i=.int .i64 k/\∀j,j<k->∀b,xs[j]? =some b->(b.c==q)=false) (λi=>n-(intOf i).toNat)
 case atStart=>exact⟨0,jT _,rfl,λj hj=>absurd hj aC⟩
 case round=>
  obtain⟨k,hk,rfl,fV⟩:=hrel;have HC:=aD fV;by_cases aN:k<n
  .obtain⟨b,off,d,hA,_,_,h3,eM,fK,pD⟩:=h.callsAt aN
   subst hA;have HX:=aD eM;have i0:(0:Int)<=(k:Int):=aC;have i1:(k:Int)<(n:Int):=aC;cases hq:(d.c==q)
   .have HP:=aD hq
    go_wp2
    go_round
    case rel=>exact⟨k+1,aC,mV,S7 HC.o HX.o HP.o⟩
    case measure=>simp[intOf];omega
   .have HP:=aD hq
    go_wp2;go_ret;exact⟨As (by unfold vC;rw[zcz HX.o HP.o HC.o];rfl),rfl⟩
  .have e:k=n:=aC
   subst e;go_wp2;go_ret;exact⟨As zuY,rfl⟩
def zi7 (E s:Nat)(w:aE)(m:Nat)(xs:List aF)(v:aF)(w':aE):Prop:=∃g cp,v=.slice (some ⟨g,0,none⟩) m cp/\w'.ownsRow w.heap.size E s (.slice (some ⟨g,0,none⟩) m cp) m xs/\bV w.heap.size w w'
def zrL (bs:List bJ)(b:bJ):bF (bs++[b])=bF bs++b.cells:=by simp[bF]
def zf1:(aK.info? 100).map (λi=>(i.zero,i.size,i.bytes))=some (some (.agg #[.int .i64 0,.int .i64 0]),2,16):=aQ
def zJL {xs:List bJ}{d:bJ}(q:Int)(h:xs[k]? =some d):dX (xs.take (k+1)) q=dX (xs.take k) q++(if d.c !=q then[d] else[]):=by
 unfold dX;rw[Nf,h,Qf];congr 1;simp[zow]
def zd9 (lo hi n c:Nat)(A:Option bL)(xs:List bJ)(q:Int)(w:aE)(h:b7 w lo hi 2 A n c (bF xs))(hn:n<=100000):
 fN aK 95 #[.slice A n c,.int .i64 q] w λe w'=>∃v,e=.returned v/\zi7 100 2 w (dX xs q).length (bF (dX xs q)) v w':=by
 have hl:=aD h.callsLen;obtain⟨i0,eV,gX,eB,jZ⟩:=y8 zf1;have HI:=aD (And.intro eV (And.intro gX (And.intro eB jZ)));clear eV gX eB jZ
 go_enter Tryz.func95,Tryz.ntmps95
 go_wp2
 go_loopw [5,6] (λv i wr=>∃(k g L cl:Nat),k<=n/\i=.int .i64 k/\L=(dX (xs.take k) q).length/\v=.slice (some ⟨g,0,none⟩) L cl/\bV w.heap.size w wr/\wr.ownsRow w.heap.size 100 2 (.slice (some ⟨g,0,none⟩) L cl) L (bF (dX (xs.take k) q))) (λ_ i _=>n-(intOf i).toNat)
 case atStart=>exact⟨0,w.heap.size,0,0,jT _,rfl,rfl,rfl,dN (eF _ _) _,L5 (aX _) (lF _ _)⟩
 case round=>
  obtain⟨k,g,L,cl,hk,rfl,hL,rfl,B,cP⟩:=hrel;have HL:=aD hL;have Ja:=aD cP;have HB:=aD B;have zjY:=B.size;have hlen:L<=k:=by rw[hL];unfold dX;exact eG (zb5 _ _) q8
  clear hL cP;by_cases aN:k<n
  .obtain⟨b,off,d,hA,_,_,h3,eM,fK,pD⟩:=(h.below B).callsAt aN
   subst hA;have HF:=aD (zJL q eM);clear eM h h3 B;have zBr:(0:Int)<=(k:Int):=aC;have i1:(k:Int)<(n:Int):=aC;cases hq:(d.c !=q)
   .rw[hq] at HF
    have HN:=aD (show dX (xs.take (k+1)) q=dX (xs.take k) q by rw[HF.o];simp);go_wp2;go_roundw
    case rel=>exact⟨k+1,g,L,cl,aC,mV,by rw[HN.o];exact HL.o,rfl,HB.o,by rw[HN.o];exact Ja.o⟩
    case measure=>simp[intOf];omega
   .rw[hq] at HF
    have HN:=aD (show dX (xs.take (k+1)) q=dX (xs.take k) q++[d] by rw[HF.o];simp);obtain⟨eV,gX,eB,jZ⟩:=HI.o;have HH:=aD eV;clear eV
    go_wp2_with (at_builtin;refine znx _ rfl (.tmp 21) (.tmp 26) 57 rfl w.heap.size 100 i0 (.agg #[.int .i64 0,.int .i64 0]) 2 16 J6 HH.o gX eB jZ rfl aH (.slice (some ⟨g,0,none⟩) L cl) L (bF (dX (xs.take k) q)) rfl (zH Ja.o ?c1) aO ⟨_,0,none⟩ 1 1 (bJ.cells d) rfl rfl ?c2 Uu ?c5 ?c6 ?c7 ?_;(case c1=>exact λb hb=>qO _ _ b hb);(case c2=>exact Fo (cs:=(bJ.cells d).toArray) (mI _ _ aO));(case c5=>unfold maxLen;omega);(case c6=>omega);(case c7=>(simp;omega));intro g1 c1 w1 qE pU B1;have y9:=aD qE;have rC:=aD B1;clear qE pU B1)
    go_roundw
    case rel=>
     refine⟨k+1,g1,L+1,c1,aC,mV,by rw[HN.o,HL.o];simp,rfl,(dN HB.o _).trans rC.o,?_⟩;rw[HN.o,zrL];exact y9.o
    case measure=>simp[intOf];omega
  .have e:k=n:=aC
   subst e;have HT:=aD (show xs.take k=xs by rw[zB zg5]);clear h B;go_wp2;go_ret;refine⟨_,rfl,g,cl,by rw[HL.o,HT.o];rfl,?_,HB.o⟩;have:=Ja.o;rw[HL.o,HT.o] at this;exact this
section
variable {P:bS}(w:aE)
def zeF (t ty:aM)(base:Nat)(e:aM)(i:wW)(z:aF)(size bytes:Nat)(ht:P.underlying t=some (.slice e))(hi:P.info? e=some i)(hz:i.zero=some z)
 (wR:i.size=size) (uQ:i.bytes=bytes) (hzs:z.cells.size=size) (cG:0<size)
 (gv cv n:Nat) (xs:List aF) (cP:w.ownsRow base e size (.slice (some ⟨gv,0,none⟩) n cv) n xs)
 (ad:bL) (m c:Nat) (news:List aF) (hl:news.length=m*size) (Er:∀j u,news[j]? =some u->w.cell? (ad.add j)=some u) (h1:∀u∈news,u.oneCell'=true)
 (xE:n+m<=maxLen) (xA:(n+m)*bytes<=140737488355328) (rT:base<=w.heap.size):
 ∃g cap w',(xG #[t,t] ty #[.slice (some ⟨gv,0,none⟩) n cv,.slice (some ad) m c]).run P w=.ok (.slice (some ⟨g,0,none⟩) (n+m) cap) w'/\
  w'.ownsRow base e size (.slice (some ⟨g,0,none⟩) (n+m) cap) (n+m) (xs++news)/\w.grownBy w' (some gv)/\bV base w w'/\(g=gv\/g=w.heap.size):=by
 obtain⟨v',w',hr,h2,h3,h4,h5⟩:=zp8 (P:=P) w base t ty e i z size bytes ht hi hz wR uQ hzs cG _ n xs cP ad m c news hl Er h1 xE xA rT;obtain⟨g,cap,rfl⟩:=znq h2 (λh=>by have:=(h4.1 h).1;cases this);refine⟨g,cap,w',hr,h2,h3,zog cP h3 rT,?_⟩;rcases h5 with h5|h5
 .exact .inl (by simpa[D8] using h5)
 .exact .inr (by simpa[D8] using h5)
variable {o:aZ}{a:Act}
def zFx {K:Act->aE->Prop}{Q:Exit->Act->aE->Prop}(s x:cM)(t:aM)
 (ho:o.op=.call {callee:=.builtin .append,args:=#[s,x],argTypes:=#[t,t]})
 (base:Nat) (e:aM) (i:wW) (z:aF) (size bytes:Nat) (ht:P.underlying t=some (.slice e)) (hi:P.info? e=some i) (hz:i.zero=some z)
 (wR:i.size=size) (uQ:i.bytes=bytes) (hzs:z.cells.size=size) (cG:0<size)
 (gv cv n:Nat) (xs:List aF) (hs:a.eval s=.slice (some ⟨gv,0,none⟩) n cv) (cP:w.ownsRow base e size (.slice (some ⟨gv,0,none⟩) n cv) n xs)
 (ad:bL) (m c:Nat) (news:List aF) (hx:a.eval x=.slice (some ad) m c) (hl:news.length=m*size) (Er:∀j u,news[j]? =some u->w.cell? (ad.add j)=some u) (h1:∀u∈news,u.oneCell'=true)
 (xE:n+m<=maxLen) (xA:(n+m)*bytes<=140737488355328) (rT:base<=w.heap.size)
 (h:∀g cap w',w'.ownsRow base e size (.slice (some ⟨g,0,none⟩) (n+m) cap) (n+m) (xs++news)->w.grownBy w' (some gv)->bV base w w'->(g=gv\/g=w.heap.size)->K (a.put o.dst (.slice (some ⟨g,0,none⟩) (n+m) cap)) w'):o.wp P a w K Q:=by
 obtain⟨g,cap,w',hr,h2,h3,h4,h5⟩:=zeF (P:=P) w t o.type base e i z size bytes ht hi hz wR uQ hzs cG gv cv n xs cP ad m c news hl Er h1 xE xA rT;unfold Bm execOp;simp only[ho,resolve,invoke,builtin,Eg,Iu,Fq,uI,fO,tW,hs,hx,hr];exact h g cap w' h2 h3 h4 h5
def znJ {ops:Array aZ}{rest:List aZ}{Q:Exit->Act->aE->Prop}(E8:o.guard=none)(s x:cM)(t:aM)
 (ho:o.op=.call {callee:=.builtin .append,args:=#[s,x],argTypes:=#[t,t]})
 (base:Nat) (e:aM) (i:wW) (z:aF) (size bytes:Nat) (ht:P.underlying t=some (.slice e)) (hi:P.info? e=some i) (hz:i.zero=some z)
 (wR:i.size=size) (uQ:i.bytes=bytes) (hzs:z.cells.size=size) (cG:0<size)
 (gv cv n:Nat) (xs:List aF) (hs:a.eval s=.slice (some ⟨gv,0,none⟩) n cv) (cP:w.ownsRow base e size (.slice (some ⟨gv,0,none⟩) n cv) n xs)
 (ad:bL) (m c:Nat) (news:List aF) (hx:a.eval x=.slice (some ad) m c) (hl:news.length=m*size) (Er:∀j u,news[j]? =some u->w.cell? (ad.add j)=some u) (h1:∀u∈news,u.oneCell'=true)
 (xE:n+m<=maxLen) (xA:(n+m)*bytes<=140737488355328) (rT:base<=w.heap.size)
 (h:∀g cap w',w'.ownsRow base e size (.slice (some ⟨g,0,none⟩) (n+m) cap) (n+m) (xs++news)->w.grownBy w' (some gv)->bV base w w'->(g=gv\/g=w.heap.size)->wpList P ops Q rest (a.put o.dst (.slice (some ⟨g,0,none⟩) (n+m) cap)) w'):wpList P ops Q (o::rest) a w:=
 wpList_plain E8 λ_ hK=>zFx w s x t ho base e i z size bytes ht hi hz wR uQ hzs cG gv cv n xs hs cP ad m c news hx hl Er h1 xE xA rT λg cap w' h2 h3 h4 h5=>hK _ _ (h g cap w' h2 h3 h4 h5)
end
structure fL where
 gR:Nat
 cR:Nat
 gW:Nat
 cW:Nat
 gB:Nat
 cB:Nat
 gL:Nat
 cL:Nat
abbrev fL.sR (v:fL)(r:bX):Value:=.slice (some ⟨v.gR,0,none⟩) r.recs.length v.cR
abbrev fL.sW (v:fL)(r:bX):Value:=.slice (some ⟨v.gW,0,none⟩) r.wait.length v.cW
abbrev fL.sB (v:fL)(r:bX):Value:=.slice (some ⟨v.gB,0,none⟩) r.back.length v.cB
abbrev fL.sL (v:fL)(r:bX):Value:=.slice (some ⟨v.gL,0,none⟩) r.log.length v.cL
abbrev fW (v:fL)(r:bX):Array Value:=#[.int .i64 r.o.ln,.int .i64 r.o.op,.int .i64 r.o.pt,.int .i64 r.clk,v.sR r,v.sW r,v.sB r,v.sL r]
abbrev yA (v:fL)(r:bX):Obj:=.cells (fW v r) 59
structure eA (w:aE)(lo:Nat)(v:fL)(r:bX):Prop where
 rc:w.ownsRow lo 50 7 (v.sR r) r.recs.length (recs r.recs)
 wt:w.ownsRow lo 100 2 (v.sW r) r.wait.length (bF r.wait)
 bk:w.ownsRow lo 100 2 (v.sB r) r.back.length (bF r.back)
 lg:w.ownsRow lo 9 1 (v.sL r) r.log.length (Fx r.log)
 ap:v.gR≠v.gW/\v.gR≠v.gB/\v.gR≠v.gL/\v.gW≠v.gB/\v.gW≠v.gL/\v.gB≠v.gL
structure oF (v:fL)(w w':aE):Prop where
 os:w'.os=w.os
 tape:w'.tape=w.tape
 output:w'.output=w.output
 size:w.heap.size<=w'.heap.size
 block:∀b,b<w.heap.size->b≠v.gR->b≠v.gB->w'.heap[b]? =w.heap[b]?
structure wS (n:Nat)(v v':fL):Prop where
 r:v'.gR=v.gR\/n<=v'.gR
 w:v'.gW=v.gW\/n<=v'.gW
 b:v'.gB=v.gB\/n<=v'.gB
 l:v'.gL=v.gL
section
variable {w w' Ff:aE}{lo:Nat}{v v' zaG:fL}{r:bX}
def oF.of_below (v:fL)(h:bV w.heap.size w w'):oF v w w':=⟨h.os,h.tape,h.output,h.size,λb hb _ _=>h.block b hb⟩
def oF.trans {n:Nat}(h:oF v w w')(k:oF v' w' Ff)(m:wS n v v')(hn:w.heap.size<=n):oF v w Ff:=
 ⟨k.os.trans h.os,k.tape.trans h.tape,k.output.trans h.output,eG h.size k.size,λb hb h1 h2=>(k.block b (lD hb h.size) (λe=>by rcases m.r with x|x<;>omega) (λe=>by rcases m.b with x|x<;>omega)).trans (h.block b hb h1 h2)⟩
def oF.same (h:oF v w w')(k:oF v w' Ff):oF v w Ff:=
 ⟨k.os.trans h.os,k.tape.trans h.tape,k.output.trans h.output,eG h.size k.size,λb hb h1 h2=>(k.block b (lD hb h.size) h1 h2).trans (h.block b hb h1 h2)⟩
def wS.refl (n:Nat)(v:fL):wS n v v:=⟨.inl rfl,.inl rfl,.inl rfl,rfl⟩
def wS.trans {n m:Nat}(h:wS n v v')(k:wS m v' zaG)(hm:n<=m):wS n v zaG:=
 ⟨
  k.r.elim (λe=>h.r.imp (λx=>e.trans x) (λx=>by omega)) (λx=>.inr aC),k.w.elim (λe=>h.w.imp (λx=>e.trans x) (λx=>by omega)) (λx=>.inr aC),
  k.b.elim (λe=>h.b.imp (λx=>e.trans x) (λx=>by omega)) (λx=>.inr aC),k.l.trans h.l⟩
def eA.keep (h:eA w lo v r)(k:∀b,b<w.heap.size->w'.heap[b]? =w.heap[b]?):eA w' lo v r:=⟨zH h.rc k,zH h.wt k,zH h.bk k,zH h.lg k,h.ap⟩
def eA.below (h:eA w lo v r)(k:bV w.heap.size w w'):eA w' lo v r:=h.keep λb hb=>k.block b hb
def eA.alloc (h:eA w lo v r)(o:tH):eA (w.alloc o) lo v r:=h.keep λb hb=>qO w o b hb
def eA.lts (h:eA w lo v r):lo<=v.gR/\v.gR<w.heap.size/\lo<=v.gW/\v.gW<w.heap.size/\lo<=v.gB/\v.gB<w.heap.size/\lo<=v.gL/\v.gL<w.heap.size:=
 ⟨(h.rc.lt _ rfl).1,(h.rc.lt _ rfl).2,(h.wt.lt _ rfl).1,(h.wt.lt _ rfl).2,(h.bk.lt _ rfl).1,(h.bk.lt _ rfl).2,(h.lg.lt _ rfl).1,(h.lg.lt _ rfl).2⟩
def eA.slcR (h:eA w lo v r):b7 w lo w.heap.size 7 (some ⟨v.gR,0,none⟩) r.recs.length v.cR (recs r.recs):=zZ h.rc aH
def eA.slcW (h:eA w lo v r):b7 w lo w.heap.size 2 (some ⟨v.gW,0,none⟩) r.wait.length v.cW (bF r.wait):=zZ h.wt aH
def eA.slcB (h:eA w lo v r):b7 w lo w.heap.size 2 (some ⟨v.gB,0,none⟩) r.back.length v.cB (bF r.back):=zZ h.bk aH
def eA.clock (h:eA w lo v r)(k:Int):eA w lo v {r with clk:=k}:=⟨h.rc,h.wt,h.bk,h.lg,h.ap⟩
variable {xs:List bJ}
def eA.newW {m g c:Nat}(h:eA w lo v r)(hk:∀b,b<w.heap.size->w'.heap[b]? =w.heap[b]?)(ho:w'.ownsRow lo 100 2 (.slice (some ⟨g,0,none⟩) m c) m (bF xs))(hm:m=xs.length)(hg:w.heap.size<=g):
 eA w' lo {v with gW:=g,cW:=c} {r with wait:=xs}:=by
 have l:=h.lts;have k:=h.keep hk;subst hm;exact⟨k.rc,ho,k.bk,k.lg,by have:=h.ap;simp only;omega⟩
def eA.newB {m g c:Nat}(h:eA w lo v r)(hk:∀b,b<w.heap.size->w'.heap[b]? =w.heap[b]?)(ho:w'.ownsRow lo 100 2 (.slice (some ⟨g,0,none⟩) m c) m (bF xs))(hm:m=xs.length)(hg:w.heap.size<=g):
 eA w' lo {v with gB:=g,cB:=c} {r with back:=xs}:=by
 have l:=h.lts;have k:=h.keep hk;subst hm;exact⟨k.rc,k.wt,ho,k.lg,by have:=h.ap;simp only;omega⟩
def eA.appB {m g c:Nat}{x:bJ}(h:eA w lo v r)(hg:w.grownBy w' (some v.gB))(ho:w'.ownsRow lo 100 2 (.slice (some ⟨g,0,none⟩) m c) m (bF r.back++x.cells))(hm:m=r.back.length+1)(hw:g=v.gB\/w.heap.size<=g):
 eA w' lo {v with gB:=g,cB:=c} {r with back:=r.back++[x]}:=by
 have l:=h.lts;have a:=h.ap;subst hm;refine⟨h.rc.kept hg (.inr Hm),h.wt.kept hg (.inr Hm),?_,h.lg.kept hg (.inr Hm),by simp only;omega⟩;have e:bF (r.back++[x])=bF r.back++x.cells:=zrL _ _;simp only[fL.sB,gN,pT,rR];rw[e];exact ho
def eA.appR {m g c:Nat}{x:bR}(h:eA w lo v r)(hg:w.grownBy w' (some v.gR))(ho:w'.ownsRow lo 50 7 (.slice (some ⟨g,0,none⟩) m c) m (recs r.recs++x.cells))(hm:m=r.recs.length+1)(hw:g=v.gR\/w.heap.size<=g):
 eA w' lo {v with gR:=g,cR:=c} {r with recs:=r.recs++[x]}:=by
 have l:=h.lts;have a:=h.ap;subst hm;refine⟨?_,h.wt.kept hg (.inr Hm),h.bk.kept hg (.inr Hm),h.lg.kept hg (.inr Hm),by simp only;omega⟩;have e:recs (r.recs++[x])=recs r.recs++x.cells:=by simp[recs]
 simp only[fL.sR,gN,pT,rR];rw[e];exact ho
def eA.appL {m g c:Nat}{x:List UInt8}(h:eA w lo v r)(hg:w.grownBy w' (some v.gL))(ho:w'.ownsRow lo 9 1 (.slice (some ⟨g,0,none⟩) m c) m (Fx r.log++[.string ⟨x.toArray⟩]))(hm:m=r.log.length+1)(hw:g=v.gL\/w.heap.size<=g):
 eA w' lo {v with gL:=g,cL:=c} {r with log:=r.log++[x]}:=by
 have l:=h.lts;have a:=h.ap;subst hm;refine⟨h.rc.kept hg (.inr Hm),h.wt.kept hg (.inr Hm),h.bk.kept hg (.inr Hm),?_,by simp only;omega⟩;have e:Fx (r.log++[x])=Fx r.log++[.string ⟨x.toArray⟩]:=by simp[Fx,txt]
 simp only[fL.sL,gN,pT,rR];rw[e];exact ho
end
variable {d:bR}{rs:List bR}{i:Nat}{v:aF}
def zwO {j:Nat}{f:bR->bR}(hd:rs[i]? =some d)(hj:j<7)(hs:∀k,k<7->k≠j->(f d).cells[k]? =d.cells[k]?)(hv:(f d).cells[j]? =some v):(recs rs).set (i*7+j) v=recs (rs.modify i f):=by
 apply Sw;intro q;obtain⟨a,b,rfl,hb⟩:∃a b,q=a*7+b/\b<7:=⟨q/7,q%7,aC,aC⟩;have g:∀(l:List bR),(recs l)[a*7+b]? =(l[a]?).bind λx=>x.cells[b]? :=λl=>H0 bR.cells (s:=7) (λ_=>rfl) l a b hb;rw[List.getElem?_set,g,g,zM];have hlen:=ztC rs;have hi:=(kD.1 hd).1;by_cases e:i*7+j=a*7+b
 .have e1:i=a:=aC
  have e2:j=b:=aC;subst e1 e2;rw[if_pos e,if_pos aC,hd];simp[hv]
 .rw[if_neg e]
  by_cases e1:i=a
  .subst e1
   rw[hd];have:=hs b hb aC;simp[this]
  .simp[e1]
def zEy (l:Int)(h:rs[k]? =some d):rB (rs.take (k+1)) l=(rB (rs.take k) l||(d.l==l&&eK d)):=by
 unfold rB;rw[Nf,h];simp[List.any_append]
def zDb (rs:List bR)(n:Nat):xO rs (n+1)=xO rs n++(if rB rs ((n:Int)+1) then[] else[(n:Int)+1]):=by
 unfold xO;rw[List.range_succ,List.map_append,Qf];congr 1;simp only[fO,tW,zow,List.filter_nil];cases rB rs ((n:Int)+1)<;>simp
def zjL (rs:List bR)(n:Nat):(xO rs n).length<=n:=by
 unfold xO;exact eG (zb5 _ _) aO
def zHr (xs:List Int)(x:Int):eJ (xs++[x])=eJ xs++[.int .i64 x]:=by simp[eJ]
def zzA:(aK.info? 3).map (λi=>(i.zero,i.size,i.bytes))=some (some (.int .i64 0),1,8):=aQ
def Ad {o:jG}(h:qJ o=true):1<=o.ln/\o.ln<=6/\1<=o.op/\o.op<=4/\1<=o.pt/\o.pt<=60:=of_decide_eq_true h
def zqv (lo:Nat)(v:fL)(r:bX)(w:aE)(h:eA w lo v r)(hn:r.recs.length<=100000)(ho:qJ r.o=true):
 fN aK 90 #[.agg (fW v r)] w λe w'=>∃x,e=.returned x/\zi7 3 1 w (oJ r.o r.recs).length (eJ (oJ r.o r.recs)) x w':=by
 obtain⟨i0,eV,gX,eB,jZ⟩:=y8 zzA;have HI:=aD (And.intro eV (And.intro gX (And.intro eB jZ)));clear eV gX eB jZ;obtain⟨l0,l1,-,-,-,-⟩:=Ad ho;have hs:=h.slcR;obtain⟨n,Cm⟩:=aU r.recs.length;have zKi:n<=100000:=aC;have HN:=aD Cm;obtain⟨rs,zgo⟩:=aU r.recs;have zMv:=aD zgo;obtain⟨gb,eY⟩:=aU w.heap.size;have fT:=aD eY;obtain⟨ln,yU⟩:=aU r.o.ln;have ztI:=aD yU;obtain⟨m,hm⟩:=aU (ln.toNat:Nat);have Zh:ln=(m:Int):=aC;obtain⟨O,hO⟩:=aU (.cells (fW v r) 59:tH);have jC:(w.alloc O).heap[gb]? =some (yA v r):=by rw[hO,eY];exact lF _ _
 have B0:bV w.heap.size w (w.alloc O):=dN (eF _ _) O;have hz:(w.alloc O).heap.size=gb+1:=by rw[eY];simp
 have hF:oJ r.o r.recs=xO rs m:=by unfold oJ;rw[<-yU,<-zgo,<-hm]
 have HF:=aD hF;have O1:=aJ jC 0;rw[<-Cm,<-zgo] at hs;have zHJ:=aD jC;have Ng:=aD B0;have HZ:=aD hz;rw[<-yU] at l0 l1;clear hF Cm zgo eY yU hm h O1;have HO:=aD hO;have zDZ:=aD Zh;rw[Zh] at l0 l1;clear hO jC B0 hz
 go_enter Tryz.func90,Tryz.ntmps90
 go_wp2_with fail
 rw[<-HO.o]
 go_loopw [3,4] (λx i wr=>∃(k g L cl:Nat),k<=m/\i=.int .i64 ((k:Int)+1)/\L=(xO rs k).length/\x=.slice (some ⟨g,0,none⟩) L cl/\bV (gb+1) (w.alloc O) wr/\wr.ownsRow (gb+1) 3 1 (.slice (some ⟨g,0,none⟩) L cl) L (eJ (xO rs k))) (λ_ i _=>1000-(intOf i).toNat)
 case atStart=>
  have hz:=HZ.o;refine⟨0,gb+1,0,0,jT _,aO,rfl,by rw[fT.o],?_,L5 (aX _) (mI _ _ hz.symm)⟩;rw[<-hz];exact dN (eF _ _) _
 case round=>
  obtain⟨k,g,L,cl,hk,rfl,hL,rfl,B,cP⟩:=hrel;have HL:=aD hL;have Ja:=aD cP;have HB:=aD B;have zjY:=B.size;have hz:=HZ.o;have qP:=(B.block gb aC).trans zHJ.o;have e0:=aJ qP 0;have e4:=aJ qP 4;have hlen:=zjL rs k;rw[<-hL] at hlen;have Gk:=hs.below (Ng.o.trans (B.mono (by have:=fT.o;omega)));have zhn:wr.cell? ⟨w.heap.size,0,none⟩=some (.int .i64 (m:Int)):=by rw[<-fT.o,e0,<-zDZ.o,ztI.o];rfl
  have zKJ:wr.cell? ⟨w.heap.size,4,none⟩=some (.slice (some ⟨v.gR,0,none⟩) n v.cR):=by rw[<-fT.o,e4,HN.o];rfl
  have zgf:=aD (zDb rs k);have zze:=aD Gk.recLen;clear hL cP e0 e4 qP B hz hs;by_cases aN:k<m
  .obtain⟨l,hl⟩:=aU ((k:Int)+1:Int)
   have zLV:1<=l:=aC;have zoK:l<=(m:Int):=aC;rw[<-hl] at zgf⊢;have zdo:=aD hl;clear hl
   go_wp2_with fail
   go_loop [5,6] (λu i=>∃j:Nat,j<=n/\u=.bool (rB (rs.take j) l)/\i=.int .i64 j) (λ_ i=>n-(intOf i).toNat)
   case atStart=>exact⟨0,jT _,rfl,rfl⟩
   case round=>
    obtain⟨j,hj,rfl,rfl⟩:=hrel;by_cases zEE:j<n
    .obtain⟨b,off,d,hA,_,_,h3,eM,fK,pD,xJ,Jz,Kt,nJ,zgL⟩:=Gk.rec7 zEE
     have HU:=aD (zEy l eM);have i0:(0:Int)<=(j:Int):=aC;have i1:(j:Int)<(n:Int):=aC;injection hA with hA;injection hA with zV zE;subst zV zE;simp only[qY] at pD zgL;clear eM Gk fK xJ Jz Kt nJ h3;cases hu:rB (rs.take j) l
     .rw[hu] at HU
      cases hq:(d.l==l)
      .have E9:=aD (show rB (rs.take (j+1)) l=false by rw[HU.o,hq];rfl)
       go_wp2
       go_round
       case rel=>exact⟨j+1,aC,by rw[E9.o],mV⟩
       case measure=>simp[intOf];omega
      .cases hd:(d.e.toList==[111,112,101,110])
       .have E9:=aD (show rB (rs.take (j+1)) l=false by rw[HU.o,hq];unfold eK;rw[hd];rfl)
        go_wp2
        go_round
        case rel=>exact⟨j+1,aC,by rw[E9.o],mV⟩
        case measure=>simp[intOf];omega
       .have E9:=aD (show rB (rs.take (j+1)) l=true by rw[HU.o,hq];unfold eK;rw[hd];rfl)
        go_wp2
        go_round
        case rel=>exact⟨j+1,aC,by rw[E9.o],mV⟩
        case measure=>simp[intOf];omega
     .rw[hu] at HU
      have E9:=aD (show rB (rs.take (j+1)) l=true by rw[HU.o];rfl);clear pD zgL;go_wp2
      go_round
      case rel=>exact⟨j+1,aC,by rw[E9.o],mV⟩
      case measure=>simp[intOf];omega
    .have e:j=n:=aC
     subst e;have HT:=aD (show rs.take j=rs by rw[zB (by rw[zze.o];exact aX _)]);rw[HT.o];clear Gk;obtain⟨u,hu⟩:=aU (rB rs l);rw[<-hu] at zgf⊢;clear hu;cases u
     .have E9:=aD (show xO rs (k+1)=xO rs k++[l] by rw[zgf.o];rfl)
      obtain⟨eV,gX,eB,jZ⟩:=HI.o;have HH:=aD eV;have zeh:=HZ.o;clear eV
      go_wp2_with (at_builtin;refine znx _ rfl (.tmp 44) (.tmp 46) 38 rfl (gb+1) 3 i0 (.int .i64 0) 1 8 Tryz.underlying38 HH.o gX eB jZ rfl aH (.slice (some ⟨g,0,none⟩) L cl) L (eJ (xO rs k)) rfl (zH Ja.o ?c1) aO ⟨_,0,none⟩ 1 1 [.int .i64 l] rfl rfl ?c2 Lm ?c5 ?c6 ?c7 ?_;(case c1=>exact λb hb=>qO _ _ b hb);(case c2=>exact Fo (cs:=#[.int .i64 l]) (mI _ _ aO));(case c5=>unfold maxLen;omega);(case c6=>omega);(case c7=>(simp;omega));intro g1 c1 w1 qE pU B1;have y9:=aD qE;have rC:=aD B1;clear qE pU B1)
      go_roundw
      case rel=>
       refine⟨k+1,g1,L+1,c1,aC,by rw[zdo.o];push_cast;rfl,by rw[E9.o,HL.o];simp,rfl,?_,?_⟩
       .have b1:=HB.o
        exact(b1.alloc (by have:=HB.o.size;have:=HZ.o;omega) _).trans rC.o
       .rw[E9.o,zHr];exact y9.o
      case measure=>have:=zdo.o;simp[intOf];omega
     .have E9:=aD (show xO rs (k+1)=xO rs k by rw[zgf.o];simp)
      go_wp2;go_roundw
      case rel=>exact⟨k+1,g,L,cl,aC,by rw[zdo.o];push_cast;rfl,by rw[E9.o];exact HL.o,rfl,HB.o,by rw[E9.o];exact Ja.o⟩
      case measure=>have:=zdo.o;simp[intOf];omega
  .have e:k=m:=aC
   subst e;clear Gk;go_wp2;go_ret;refine⟨_,rfl,g,cl,by rw[HF.o,<-HL.o];rfl,?_,Ng.o.trans (HB.o.mono (by have:=fT.o;omega))⟩;rw[HF.o,<-HL.o];obtain⟨h1,h2⟩:=Ja.o;refine⟨h1,h2.imp id λ⟨b,cap,cur,e1,e2,e3⟩=>⟨b,cap,cur,e1,by have:=fT.o;omega,e3⟩⟩
variable {xs:List aF}{s:Nat}
def b7.takeS {g:Nat}(h:b7 w lo hi s (some ⟨g,0,none⟩) n c xs)(hk:k<=n):b7 w lo hi s (some ⟨g,0,none⟩) k c (xs.take (k*s)):=by
 refine⟨by rw[rQ,h.len];exact Nat.min_eq_left (Aj _ hk),eG hk h.le,h.cap,λh0=>?_⟩;obtain⟨b,off,e,h1,h2,h3,h4⟩:=h.at_ aC;refine⟨b,off,e,h1,h2,h3,λj v hv=>h4 j v ?_⟩;rw[List.getElem?_take] at hv;split at hv
 .exact hv
 .cases hv
def b7.dropS {g:Nat}(h:b7 w lo hi s (some ⟨g,0,none⟩) n c xs)(hk:k<=n):b7 w lo hi s (some ⟨g,k*s,none⟩) (n-k) (c-k) (xs.drop (k*s)):=by
 refine⟨by rw[x3,h.len,Nat.sub_mul],by have:=h.le;omega,by have:=h.cap;omega,λh0=>?_⟩;obtain⟨b,off,e,h1,h2,h3,h4⟩:=h.at_ aC;injection e with e;injection e with e1 e2;subst e1 e2;refine⟨g,k*s,rfl,h1,h2,h3,λj v hv=>?_⟩;rw[List.getElem?_drop] at hv;have:=h4 (k*s+j) v hv
 rwa [qY] at this
def b7.dropI {g:Nat}(h:b7 w lo hi s (some ⟨g,0,none⟩) n c xs)(hk:k<=n):b7 w lo hi s (if c=k then some ⟨g,0,none⟩ else some ⟨g,k*s,none⟩) (n-k) (c-k) (xs.drop (k*s)):=by
 have d:=h.dropS hk;by_cases e:c=k
 .rw[if_pos e]
  exact⟨d.len,d.le,d.cap,λh0=>by have:=h.le;omega⟩
 .rw[if_neg e];exact d
def zvW (xs:List bJ)(k:Nat):(bF xs).take (k*2)=bF (xs.take k):=by
 induction xs generalizing k with
 |nil=>simp[bF]
 |cons x xs ih=>
  cases k with
  |zero=>simp[bF]
  |succ k=>
   have e:(k+1)*2=k*2+1+1:=aC;rw[e];simp only[bF,zcV,bJ.cells,Us,zeY,List.take_succ_cons];have:=ih k;unfold bF at this;rw[this]
def zpm (xs:List bJ)(k:Nat):(bF xs).drop (k*2)=bF (xs.drop k):=by
 induction xs generalizing k with
 |nil=>simp[bF]
 |cons x xs ih=>
  cases k with
  |zero=>simp[bF]
  |succ k=>
   have e:(k+1)*2=k*2+1+1:=aC;rw[e];simp only[bF,zcV,bJ.cells,Us,zeY,List.drop_succ_cons];have:=ih k;unfold bF at this;rw[this]
def zpu (xs ys:List bJ):bF (xs++ys)=bF xs++bF ys:=by simp[bF]
def Xg (xs:List bJ):∀u∈bF xs,u.oneCell'=true:=by
 intro u hu;obtain⟨d,_,hd⟩:=List.mem_flatMap.1 hu;simp only[bJ.cells,jJ,List.not_mem_nil,or_false] at hd;rcases hd with rfl|rfl<;>rfl
def zxw {xs:List bJ}{x:bJ}(hk:k<=xs.length)(h:∀j,j<k->∀b,xs[j]? =some b->x.p<=b.p)(hn:∀b,xs[k]? =some b->¬x.p<=b.p):uB xs x=xs.take k++x::xs.drop k:=by
 unfold uB
 induction xs generalizing k with
 |nil=>simp
 |cons y ys ih=>
  cases k with
  |zero=>
   have:=hn y rfl;simp[zah,zp4,this]
  |succ k=>
   have hy:=h 0 aC y rfl;have:=ih (k:=k) (by simpa using hk) (λj hj b hb=>h (j+1) aC b zd4) (λb hb=>hn b zd4);simp[zah,zp4,hy,this]
def zbP {W:aE}(h:W.cell? a1=some v1/\W.cell? a2=some v2/\bV W0.heap.size W0 W):bV W0.heap.size W0 W:=h.2.2
variable {u:aF}
def zqQ {a b:bL}(h:w.cell? a=some u)(k:w.cell? b=some v):w.cell? a=some u/\w.cell? b=some v:=⟨h,k⟩
def zEJ (lo hi n c g:Nat)(xs:List bJ)(x:bJ)(w:aE)(h:b7 w lo hi 2 (some ⟨g,0,none⟩) n c (bF xs))(hn:n<=100000):
 fN aK 93 #[.slice (some ⟨g,0,none⟩) n c,.agg #[.int .i64 x.c,.int .i64 x.p]] w λe w'=>∃v,e=.returned v/\zi7 100 2 w (uB xs x).length (bF (uB xs x)) v w':=by
 have hl:=aD h.callsLen;have zgD:=aD h.le;obtain⟨i0,eV,gX,eB,jZ⟩:=y8 zf1;have HI:=aD (And.intro eV (And.intro gX (And.intro eB jZ)));clear eV gX eB jZ;obtain⟨gb,eY⟩:=aU w.heap.size;have fT:=aD eY;obtain⟨O,hO⟩:=aU (.cells #[.int .i64 x.c,.int .i64 x.p] 100:tH);have jC:(w.alloc O).heap[gb]? =some (.cells #[.int .i64 x.c,.int .i64 x.p] 100):=by rw[hO,eY];exact lF _ _
 have Ce:=aD jC;have Ng:=aD (dN (eF w.heap.size w) O);have HO:=aD hO;clear eY hO jC
 go_enter Tryz.func93,Tryz.ntmps93
 go_wp2_with fail
 rw[<-HO.o,<-fT.o]
 go_loopw [5] (λi wr=>∃k:Nat,k<=n/\i=.int .i64 k/\bV (w.alloc O).heap.size (w.alloc O) wr/\∀j,j<k->∀b,xs[j]? =some b->x.p<=b.p) (λi _=>n-(intOf i).toNat)
 case atStart=>exact⟨0,jT _,rfl,eF _ _,λj hj=>absurd hj aC⟩
 case round=>
  obtain⟨k,hk,rfl,B,fV⟩:=hrel;have HC:=aD fV;have kg:=(eI B Ce.o).1;have zg:=(eI B Ce.o).2;have e0:=aJ kg 0;have e1:=aJ kg 1;have BW:=Ng.o.trans (B.mono Ng.o.size);have hs:=h.below BW;have zBr:(0:Int)<=(k:Int):=aC;have Ma:=aD BW;have HB:=aD B;clear fV kg BW B;by_cases aN:k<n
  .obtain⟨b,off,d,hA,_,_,h3,eM,fK,pD⟩:=hs.callsAt aN
   injection hA with hA;injection hA with zV zE;subst zV zE;simp only[qY] at fK pD;have HX:=aD eM;have i1:(k:Int)<(n:Int):=aC;by_cases hp:x.p<=d.p
   .have HP:=aD hp
    have zA7:=decide_eq_true hp;clear eM h hs h3 fK hp
    go_wp2_with fail
    go_quiet (fail)
    go_wp2;go_roundw
    case rel=>exact⟨k+1,aC,mV,⟨HB.o.os,HB.o.tape,HB.o.output,HB.o.size,HB.o.block⟩,λj hj b hb=>by
     by_cases e:j=k
     .subst e;rw[HX.o] at hb;injection hb with hb;exact hb▸HP.o
     .exact HC.o j aC b hb⟩
    case measure=>simp[intOf];omega
   .have HQ:=aD (zxw (x:=x) (k:=k) (by rw[hl.o];exact hk) HC.o (λb hb=>by rw[eM] at hb;injection hb with hb;exact hb▸hp))
    have zA7:=decide_eq_false hp;clear eM h3 fK hp
    go_wp2_with fail
    go_quiet (fail)
    go_wp2_with fail
    obtain⟨wq,rK⟩:=aU (wr.drewN nq);rw[<-rK];replace hs:b7 wq lo hi 2 (some ⟨g,0,none⟩) n c (bF xs):=by rw[rK];exact⟨hs.len,hs.le,hs.cap,hs.at_⟩
    replace e0:wq.cell? ⟨gb,0,none⟩=some (.int .i64 x.c):=by rw[rK];exact e0
    replace e1:wq.cell? ⟨gb,1,none⟩=some (.int .i64 x.p):=by rw[rK];exact e1
    replace zg:gb<wq.heap.size:=by rw[rK];exact zg
    have zaH:=aD (show bV w.heap.size w wq by rw[rK];exact⟨Ma.o.os,Ma.o.tape,Ma.o.output,Ma.o.size,Ma.o.block⟩);have zIv:=aD (show wr.heap.size<=wq.heap.size by rw[rK];exact aX _);clear rK;have HN:=aD (aX wq.heap.size);have Fe:=aD (zvW xs k▸hs.takeS hk);have Sy:=aD (zpm xs k▸hs.dropI hk);have zpd:=aD zg;obtain⟨eV,gX,eB,jZ⟩:=HI.o;have HH:=aD eV;have mR:=zgD.o;have zaV:=aD (zqQ e0 e1);have k1:(k:Int)<=(n:Int):=aC;have k2:(n:Int)<=(c:Int):=aC;have k3:(k:Int)<=(c:Int):=aC;clear eV hs h
    go_region_held3 (λW=>W.cell? ⟨gb,0,none⟩=some (.int .i64 x.c)/\W.cell? ⟨gb,1,none⟩=some (.int .i64 x.p)/\bV wq.heap.size wq W)
     ((refine zti zgu zgu zaV.o.1 zaV.o.2 ?_;(repeat' (first|with_reducible assumption|with_reducible exact zbP Zd|with_reducible exact eF _ _|with_reducible apply dN|with_reducible apply zcD));done))
     (first
      |(refine zf3 _ rfl (.tmp 22) (.tmp 25) 57 rfl wq.heap.size 100 i0 (.agg #[.int .i64 0,.int .i64 0]) 2 16 J6 HH.o gX eB jZ rfl aH _ 0 0 [] rfl (L5 ?c1 ?c2) (some ⟨g,0,none⟩) k c _ _ (bF (xs.take k)) rfl (Fe.o.below ?c3) (Xg _) ?c5 ?c6 ?c7 ?_;(case c1=>first|omega|(simp;done)|(simp;omega));(case c2=>((try with_reducible apply L3);(first|with_reducible assumption|(with_reducible refine mI _ _ ?_;simp)|(with_reducible refine dB ?_ _;first|with_reducible assumption|(with_reducible refine mI _ _ ?_;simp))|(with_reducible refine dB ?_ _;with_reducible refine dB ?_ _;first|with_reducible assumption|(with_reducible refine mI _ _ ?_;simp))|(with_reducible refine dB ?_ _;with_reducible refine dB ?_ _;with_reducible refine dB ?_ _;first|with_reducible assumption|(with_reducible refine mI _ _ ?_;simp)))));(case c3=>(repeat' (first|with_reducible assumption|with_reducible exact zbP Zd|with_reducible exact eF _ _|with_reducible apply dN|with_reducible apply zcD)));(case c5=>unfold maxLen;omega);(case c6=>omega);(case c7=>first|omega|(simp;done)|(simp;omega));intro g1 zkx w9 qE pU B1;rw[qY];simp only[qY,zeY] at qE;have y9:=aD qE;have sM:=aD pU;have BW:=bV.trans zpk B1;have z9:=BW.size;clear qE pU B1)
      |(refine zwP _ rfl (.tmp 26) (.tmp 28) 57 rfl wq.heap.size 100 i0 (.agg #[.int .i64 0,.int .i64 0]) 2 16 J6 HH.o gX eB jZ rfl aH (.slice (some ⟨g1,0,none⟩) k zkx) k (bF (xs.take k)) rfl ?c1 aO ⟨_,0,none⟩ 1 1 [.int .i64 x.c,.int .i64 x.p] rfl rfl (Fo (cs:=#[.int .i64 x.c,.int .i64 x.p]) (t:=100) (fr:=(0,0)) ?c2) (by simp[zwx]) ?c5 ?c6 ?c7 ?_;(case c1=>first|exact y9.o|exact zH y9.o (λb hb=>qO _ _ b hb));(case c2=>first|exact lF _ _|exact(sM.o.block _ zgV zob).trans (by((try with_reducible apply L3);(first|with_reducible assumption|(with_reducible refine mI _ _ ?_;simp)|(with_reducible refine dB ?_ _;first|with_reducible assumption|(with_reducible refine mI _ _ ?_;simp))|(with_reducible refine dB ?_ _;with_reducible refine dB ?_ _;first|with_reducible assumption|(with_reducible refine mI _ _ ?_;simp))|(with_reducible refine dB ?_ _;with_reducible refine dB ?_ _;with_reducible refine dB ?_ _;first|with_reducible assumption|(with_reducible refine mI _ _ ?_;simp))))));(case c5=>unfold maxLen;omega);(case c6=>omega);(case c7=>first|omega|(simp;done)|(simp;omega));intro g2 zlZ vU zcj zlI B2;have zjk:=aD zcj;have Ua:=bV.trans (by first|exact BW|exact dN BW _) B2;have zFy:=Ua.size;clear zcj zlI B2)
      |(refine zf3 _ rfl (.tmp 29) (.tmp 32) 57 rfl wq.heap.size 100 i0 (.agg #[.int .i64 0,.int .i64 0]) 2 16 J6 HH.o gX eB jZ rfl aH g2 (k+1) zlZ (bF (xs.take k)++[.int .i64 x.c,.int .i64 x.p]) rfl zjk.o (if c=k then some ⟨g,0,none⟩ else some ⟨g,k*2,none⟩) (n-k) (c-k) _ _ (bF (xs.drop k)) rfl (Sy.o.below Ua) (Xg _) ?c5 ?c6 ?c7 ?_;(case c5=>unfold maxLen;omega);(case c6=>omega);(case c7=>first|omega|(simp;done)|(simp;omega));intro g3 zmr Cu zay zhS B3;have zmR:=aD zay;have zaa:=Ua.trans B3;have zCz:=zaa.size;clear zay zhS B3))
    all_goals go_wp2_with fail
    all_goals go_ret
    all_goals
     have zeh:=zaH.o.size;have eQ:(uB xs x).length=k+1+(n-k):=by
      rw[HQ.o,gN,rQ,pT,x3,hl.o];omega
     refine⟨_,rfl,g3,zmr,?_,?_,zaH.o.trans (zaa.mono zeh)⟩
     .rw[eQ];rfl
     .obtain⟨h1,h2⟩:=zmR.o
      have e:=eQ;have e2:bF (uB xs x)=bF (xs.take k)++[.int .i64 x.c,.int .i64 x.p]++bF (xs.drop k):=by rw[HQ.o,zpu];simp[bF,bJ.cells]
      rw[e,e2];exact⟨h1,h2.imp id λ⟨b,cap,cur,e1,e2,e3⟩=>⟨b,cap,cur,e1,aC,e3⟩⟩
  .have HQ:=aD (zxw (x:=x) (k:=k) (by rw[hl.o];exact hk) HC.o (λb hb=>by rw[Ca (by rw[hl.o];omega)] at hb;cases hb))
   have nL:=decide_eq_false aC
   go_wp2_with fail
   go_quiet (fail)
   go_wp2_with fail
   obtain⟨wq,rK⟩:=aU (wr.drewN nq);rw[<-rK];replace hs:b7 wq lo hi 2 (some ⟨g,0,none⟩) n c (bF xs):=by rw[rK];exact⟨hs.len,hs.le,hs.cap,hs.at_⟩
   replace e0:wq.cell? ⟨gb,0,none⟩=some (.int .i64 x.c):=by rw[rK];exact e0
   replace e1:wq.cell? ⟨gb,1,none⟩=some (.int .i64 x.p):=by rw[rK];exact e1
   replace zg:gb<wq.heap.size:=by rw[rK];exact zg
   have zaH:=aD (show bV w.heap.size w wq by rw[rK];exact⟨Ma.o.os,Ma.o.tape,Ma.o.output,Ma.o.size,Ma.o.block⟩);have zIv:=aD (show wr.heap.size<=wq.heap.size by rw[rK];exact aX _);clear rK;have HN:=aD (aX wq.heap.size);have Fe:=aD (zvW xs k▸hs.takeS hk);have Sy:=aD (zpm xs k▸hs.dropI hk);have zpd:=aD zg;obtain⟨eV,gX,eB,jZ⟩:=HI.o;have HH:=aD eV;have mR:=zgD.o;have zaV:=aD (zqQ e0 e1);have k1:(k:Int)<=(n:Int):=aC;have k2:(n:Int)<=(c:Int):=aC;have k3:(k:Int)<=(c:Int):=aC;clear eV hs h
   go_region_held3 (λW=>W.cell? ⟨gb,0,none⟩=some (.int .i64 x.c)/\W.cell? ⟨gb,1,none⟩=some (.int .i64 x.p)/\bV wq.heap.size wq W)
    ((refine zti zgu zgu zaV.o.1 zaV.o.2 ?_;(repeat' (first|with_reducible assumption|with_reducible exact zbP Zd|with_reducible exact eF _ _|with_reducible apply dN|with_reducible apply zcD));done))
    (first
     |(refine zf3 _ rfl (.tmp 22) (.tmp 25) 57 rfl wq.heap.size 100 i0 (.agg #[.int .i64 0,.int .i64 0]) 2 16 J6 HH.o gX eB jZ rfl aH _ 0 0 [] rfl (L5 ?c1 ?c2) (some ⟨g,0,none⟩) k c _ _ (bF (xs.take k)) rfl (Fe.o.below ?c3) (Xg _) ?c5 ?c6 ?c7 ?_;(case c1=>first|omega|(simp;done)|(simp;omega));(case c2=>((try with_reducible apply L3);(first|with_reducible assumption|(with_reducible refine mI _ _ ?_;simp)|(with_reducible refine dB ?_ _;first|with_reducible assumption|(with_reducible refine mI _ _ ?_;simp))|(with_reducible refine dB ?_ _;with_reducible refine dB ?_ _;first|with_reducible assumption|(with_reducible refine mI _ _ ?_;simp))|(with_reducible refine dB ?_ _;with_reducible refine dB ?_ _;with_reducible refine dB ?_ _;first|with_reducible assumption|(with_reducible refine mI _ _ ?_;simp)))));(case c3=>(repeat' (first|with_reducible assumption|with_reducible exact zbP Zd|with_reducible exact eF _ _|with_reducible apply dN|with_reducible apply zcD)));(case c5=>unfold maxLen;omega);(case c6=>omega);(case c7=>first|omega|(simp;done)|(simp;omega));intro g1 zkx w9 qE pU B1;rw[qY];simp only[qY,zeY] at qE;have y9:=aD qE;have sM:=aD pU;have BW:=bV.trans zpk B1;have z9:=BW.size;clear qE pU B1)
     |(refine zwP _ rfl (.tmp 26) (.tmp 28) 57 rfl wq.heap.size 100 i0 (.agg #[.int .i64 0,.int .i64 0]) 2 16 J6 HH.o gX eB jZ rfl aH (.slice (some ⟨g1,0,none⟩) k zkx) k (bF (xs.take k)) rfl ?c1 aO ⟨_,0,none⟩ 1 1 [.int .i64 x.c,.int .i64 x.p] rfl rfl (Fo (cs:=#[.int .i64 x.c,.int .i64 x.p]) (t:=100) (fr:=(0,0)) ?c2) (by simp[zwx]) ?c5 ?c6 ?c7 ?_;(case c1=>first|exact y9.o|exact zH y9.o (λb hb=>qO _ _ b hb));(case c2=>first|exact lF _ _|exact(sM.o.block _ zgV zob).trans (by((try with_reducible apply L3);(first|with_reducible assumption|(with_reducible refine mI _ _ ?_;simp)|(with_reducible refine dB ?_ _;first|with_reducible assumption|(with_reducible refine mI _ _ ?_;simp))|(with_reducible refine dB ?_ _;with_reducible refine dB ?_ _;first|with_reducible assumption|(with_reducible refine mI _ _ ?_;simp))|(with_reducible refine dB ?_ _;with_reducible refine dB ?_ _;with_reducible refine dB ?_ _;first|with_reducible assumption|(with_reducible refine mI _ _ ?_;simp))))));(case c5=>unfold maxLen;omega);(case c6=>omega);(case c7=>first|omega|(simp;done)|(simp;omega));intro g2 zlZ vU zcj zlI B2;have zjk:=aD zcj;have Ua:=bV.trans (by first|exact BW|exact dN BW _) B2;have zFy:=Ua.size;clear zcj zlI B2)
     |(refine zf3 _ rfl (.tmp 29) (.tmp 32) 57 rfl wq.heap.size 100 i0 (.agg #[.int .i64 0,.int .i64 0]) 2 16 J6 HH.o gX eB jZ rfl aH g2 (k+1) zlZ (bF (xs.take k)++[.int .i64 x.c,.int .i64 x.p]) rfl zjk.o (if c=k then some ⟨g,0,none⟩ else some ⟨g,k*2,none⟩) (n-k) (c-k) _ _ (bF (xs.drop k)) rfl (Sy.o.below Ua) (Xg _) ?c5 ?c6 ?c7 ?_;(case c5=>unfold maxLen;omega);(case c6=>omega);(case c7=>first|omega|(simp;done)|(simp;omega));intro g3 zmr Cu zay zhS B3;have zmR:=aD zay;have zaa:=Ua.trans B3;have zCz:=zaa.size;clear zay zhS B3))
   all_goals go_wp2_with fail
   all_goals go_ret
   all_goals
    have zeh:=zaH.o.size;have eQ:(uB xs x).length=k+1+(n-k):=by
     rw[HQ.o,gN,rQ,pT,x3,hl.o];omega
    refine⟨_,rfl,g3,zmr,?_,?_,zaH.o.trans (zaa.mono zeh)⟩
    .rw[eQ];rfl
    .obtain⟨h1,h2⟩:=zmR.o
     have e:=eQ;have e2:bF (uB xs x)=bF (xs.take k)++[.int .i64 x.c,.int .i64 x.p]++bF (xs.drop k):=by rw[HQ.o,zpu];simp[bF,bJ.cells]
     rw[e,e2];exact⟨h1,h2.imp id λ⟨b,cap,cur,e1,e2,e3⟩=>⟨b,cap,cur,e1,aC,e3⟩⟩
def zgt (l:List α)(i:Nat)(f g:α->α):(l.modify i f).modify i g=l.modify i (λx=>g (f x)):=by
 apply Sw;intro j;rw[zM,zM,zM];by_cases e:i=j
 .simp[e,Function.comp_def]
 .simp[e]
variable {v:fL}{r:bX}
def eA.setR {j:Nat}(f:bR->bR)(h:eA w lo v r)(hd:r.recs[i]? =some d)(hj:j<7)(hs:∀k,k<7->k≠j->(f d).cells[k]? =d.cells[k]?)(hv:(f d).cells[j]? =some u):
 eA (w.setCell ⟨v.gR,i*7+j,none⟩ u) lo v {r with recs:=r.recs.modify i f}/\oF v w (w.setCell ⟨v.gR,i*7+j,none⟩ u):=by
 obtain⟨h1,hg⟩:=h.rc.stored (i*7+j) u;rw[zwO hd hj hs hv] at h1;have a:=h.ap;refine⟨⟨?_,h.wt.kept hg (.inr Hm),h.bk.kept hg (.inr Hm),h.lg.kept hg (.inr Hm),a⟩,⟨hg.os,hg.tape,hg.output,hg.size,λb hb h1 _=>hg.block b hb (λe=>h1 (by injection e))⟩⟩;simp only[fL.sR,F6];exact h1
def eA.recAt (h:eA w lo v r)(hd:r.recs[i]? =some d):
 w.cell? ⟨v.gR,i*7,none⟩=some (.int .i64 d.c)/\w.cell? ⟨v.gR,i*7+1,none⟩=some (.int .i64 d.l)/\w.cell? ⟨v.gR,i*7+2,none⟩=some (.int .i64 d.o)/\w.cell? ⟨v.gR,i*7+3,none⟩=some (.int .i64 d.f)/\w.cell? ⟨v.gR,i*7+4,none⟩=some (.int .i64 d.h)/\w.cell? ⟨v.gR,i*7+5,none⟩=some (.int .i64 d.t)/\w.cell? ⟨v.gR,i*7+6,none⟩=some (.string d.e):=by
 have hi:=(kD.1 hd).1;have g:∀j,j<7->w.cell? ⟨v.gR,i*7+j,none⟩=d.cells[j]? :=λj hj=>by
  rw[h.rc.cellAt (i*7+j) aC];have:=H0 bR.cells (s:=7) (λ_=>rfl) r.recs i j hj;unfold recs;rw[this,hd];rfl
 exact⟨g 0 aH,g 1 aH,g 2 aH,g 3 aH,g 4 aH,g 5 aH,g 6 aH⟩
variable {b:Nat}{w':aE}
def oF.blk {o:tH}(h:oF v w w')(hb:w.heap[b]? =some o)(h1:b≠v.gR)(h2:b≠v.gB):w'.heap[b]? =some o:=(h.block b (fP hb) h1 h2).trans hb
def Tc (h:rs[i]? =some d):Gz rs i=d.c:=by unfold Gz;rw[h]
def Bi {E:Nat}{base n g c:Nat}(h:w.ownsRow base E s (.slice (some ⟨g,0,none⟩) n c) n xs)(hb:w'.heap[g]? =w.heap[g]?):w'.ownsRow base E s (.slice (some ⟨g,0,none⟩) n c) n xs:=by
 obtain⟨hl,h|⟨b,cap,cur,e,h1,hg,h2⟩⟩:=h
 .cases h.1
 .injection e with e
  injection e with e;injection e with e;subst e;exact⟨hl,.inr ⟨g,cap,cur,by simp_all,h1,hb.trans hg,h2⟩⟩
def zlO {base base':Nat}{e:aM}{size:Nat}{v:aF}(h:w.ownsRow base e size v n xs)(hb:base'<=base):w.ownsRow base' e size v n xs:=
 ⟨h.1,h.2.imp id λ⟨g,cap,cur,h1,h2,h3⟩=>⟨g,cap,cur,h1,eG hb h2,h3⟩⟩
def zBI (v:fL)(r:bX)(i g cp:Nat)(e:ByteArray):(fW v r).setIfInBounds 5 (.slice (some ⟨g,0,none⟩) (dX r.wait (Gz r.recs i)).length cp)=fW {v with gW:=g,cW:=cp} (lE r i e):=by
 have h:(lE r i e).recs.length=r.recs.length:=F6 _ _ _;simp only[fW,fL.sR,h];rfl
def gT (w:aE)(b:Nat)(a0 a1 a2 a3 a4 a5 a6 a7:aF):World:=(((((((w.setCell ⟨b,0,none⟩ a0).setCell ⟨b,1,none⟩ a1).setCell ⟨b,2,none⟩ a2).setCell ⟨b,3,none⟩ a3).setCell ⟨b,4,none⟩ a4).setCell ⟨b,5,none⟩ a5).setCell ⟨b,6,none⟩ a6).setCell ⟨b,7,none⟩ a7
variable {a1 a2 a0 a3 a4 a5 a6 a7:aF}{T:aM}
def zbq {z0 z1 z2 z3 z4 z5 z6 z7:aF}(h:w.heap[b]? =some (.cells #[z0,z1,z2,z3,z4,z5,z6,z7] T)):(gT w b a0 a1 a2 a3 a4 a5 a6 a7).heap[b]? =some (.cells #[a0,a1,a2,a3,a4,a5,a6,a7] T):=by
 unfold gT;rw[nH (nH (nH (nH (nH (nH (nH (nH h a0) a1) a2) a3) a4) a5) a6) a7];simp only[List.setIfInBounds_toArray,List.set_cons_zero,List.set_cons_succ]
def Hl {x:Nat}(h:x≠b):(gT w b a0 a1 a2 a3 a4 a5 a6 a7).heap[x]? =w.heap[x]? :=by
 unfold gT;rw[eH _ _ _ x h,eH _ _ _ x h,eH _ _ _ x h,eH _ _ _ x h,eH _ _ _ x h,eH _ _ _ x h,eH _ _ _ x h,eH _ _ _ x h]
def zmL (w:aE)(b:Nat)(a0 a1 a2 a3 a4 a5 a6 a7:aF):(gT w b a0 a1 a2 a3 a4 a5 a6 a7).heap.size=w.heap.size:=by
 unfold gT;simp only[tD]
def zeQ (w:aE)(b:Nat)(a0 a1 a2 a3 a4 a5 a6 a7:aF):qI b (b+1) w (gT w b a0 a1 a2 a3 a4 a5 a6 a7):=
 ((((((((qI.refl b (b+1) w).setCell (p:=⟨b,0,none⟩) (aX _) (xH _) a0).setCell (p:=⟨b,1,none⟩) (aX _) (xH _) a1).setCell (p:=⟨b,2,none⟩) (aX _) (xH _) a2).setCell (p:=⟨b,3,none⟩) (aX _) (xH _) a3).setCell (p:=⟨b,4,none⟩) (aX _) (xH _) a4).setCell (p:=⟨b,5,none⟩) (aX _) (xH _) a5).setCell (p:=⟨b,6,none⟩) (aX _) (xH _) a6).setCell (p:=⟨b,7,none⟩) (aX _) (xH _) a7
def eA.set8 (h:eA w lo v r)(hb:b≠v.gR/\b≠v.gW/\b≠v.gB/\b≠v.gL):eA (gT w b a0 a1 a2 a3 a4 a5 a6 a7) lo v r:=
 ⟨Bi h.rc (Hl (Ne.symm hb.1)),Bi h.wt (Hl (Ne.symm hb.2.1)),Bi h.bk (Hl (Ne.symm hb.2.2.1)),Bi h.lg (Hl (Ne.symm hb.2.2.2)),h.ap⟩
def oF.set8 {w0:aE}(h:oF v w0 w)(hb:w0.heap.size<=b):oF v w0 (gT w b a0 a1 a2 a3 a4 a5 a6 a7):=
 have c:=zeQ w b a0 a1 a2 a3 a4 a5 a6 a7
 ⟨c.os.trans h.os,c.tape.trans h.tape,c.output.trans h.output,eG h.size c.size,λx hx h1 h2=>(Hl aC).trans (h.block x hx h1 h2)⟩
abbrev jX:Obj:=.cells #[.int .i64 0,.int .i64 0,.int .i64 0,.int .i64 0,.slice none 0 0,.slice none 0 0,.slice none 0 0,.slice none 0 0] 59
def zll (lo i:Nat)(v:fL)(r:bX)(d:bR)(e:ByteArray)(w:aE)(h:eA w lo v r)(hd:r.recs[i]? =some d)(hn:r.recs.length<=100000)(K6:r.wait.length<=100000)(dW:lo<=w.heap.size):
 fN aK 96 #[.agg (fW v r),.int .i64 (i:Int),.string e] w λx w'=>∃g c,x=.returned (.agg (fW {v with gW:=g,cW:=c} (lE r i e)))/\eA w' lo {v with gW:=g,cW:=c} (lE r i e)/\oF v w w'/\w.heap.size<=g:=by
 obtain⟨gb,eY⟩:=aU w.heap.size;have hl:=h.lts;have hi:=(kD.1 hd).1;obtain⟨O,hO⟩:=aU (.cells (fW v r) 59:tH);obtain⟨Z,hZ⟩:=aU (jX:tH);have jC:((w.alloc O).alloc Z).heap[gb]? =some (.cells (fW v r) 59):=by rw[hO,eY];exact dB (lF _ _) _
 have nZ:((w.alloc O).alloc Z).heap[gb+1]? =some jX:=by rw[<-hZ];exact mI _ _ Vy
 have j8:=(h.alloc O).alloc Z;have T1:oF v w ((w.alloc O).alloc Z):=oF.of_below v (dN (dN (eF _ _) _) _);have Ce:=aD jC;have zda:=aD nZ;have lO:=aD j8;have Fe:=aD T1;have HO:=aD hO;have HZ:=aD (show Z=.cells #[.int .i64 0,.int .i64 0,.int .i64 0,.int .i64 0,.slice none 0 0,.slice none 0 0,.slice none 0 0,.slice none 0 0] 59 from hZ);have fT:=aD eY;have HD:=aD hd;clear hO hZ eY jC nZ j8 T1 hd h;have i0:(0:Int)<=(i:Int):=aC;have i1:(i:Int)<(r.recs.length:Int):=aC
 go_enter Tryz.func96,Tryz.ntmps96
 go_upto_region 1 with fail
 rw[<-HO.o,<-HZ.o,<-fT.o];obtain⟨W1,dH⟩:=aU ((w.alloc O).alloc Z);have eB:W1.heap.size=gb+2:=by rw[dH,fT.o];simp
 rw[<-dH] at Ce zda lO Fe⊢;have oS:=aD eB;have L1:gb≠v.gR:=by have:=fT.o;omega
 have zC:gb≠v.gB:=by have:=fT.o;omega
 have Qe:gb+1≠v.gR:=by have:=fT.o;omega
 have zcW:gb+1≠v.gB:=by have:=fT.o;omega
 clear dH eB;have k:=aJ Ce.o;obtain⟨c0,c1,c2,c3,c4,c5,c6⟩:=lO.o.recAt HD.o;have fz:=λj=>lO.o.rc.frozenAt j;have k3:=k 3;have k4:=k 4;have S1:=lO.o.setR (λd=>{d with t:=r.clk}) HD.o (j:=5) aH zwM rfl;have l5:=aD S1;clear S1 k
 go_upto_region 2 with fail
 obtain⟨W2,qV⟩:=aU (W1.setCell ⟨v.gR,i*7+5,none⟩ (.int .i64 r.clk));rw[<-qV] at l5⊢;have Ag:(r.recs.modify i λd=>{d with t:=r.clk})[i]? =some {d with t:=r.clk}:=by rw[zM];simp[HD.o]
 have zhm:=aD Ag;have zxr:=aD (l5.o.2.blk Ce.o L1 zC);have zDf:=aD (l5.o.2.blk zda.o Qe zcW);clear qV c0 c1 c2 c3 c4 c5 c6 fz k3 k4 Ag;have k4:=aJ zxr.o 4;obtain⟨c0,c1,c2,c3,c4,c5,c6⟩:=l5.o.1.recAt zhm.o;have fz:=λj=>l5.o.1.rc.frozenAt j;have S2:=l5.o.1.setR (λd=>{d with e:=e}) zhm.o (j:=6) aH zxY rfl;rw[zgt] at S2;have sJ:=aD S2;clear S2
 go_upto_region 3 with fail
 obtain⟨W3,pY⟩:=aU (W2.setCell ⟨v.gR,i*7+6,none⟩ (.string e));rw[<-pY] at sJ⊢;have zo7:(r.recs.modify i λd=>{d with t:=r.clk,e:=e})[i]? =some {d with t:=r.clk,e:=e}:=by rw[zM];simp[HD.o]
 have zBx:=aD zo7;have Vx:=aD (Fe.o.same (l5.o.2.same sJ.o.2));have zcl:=sJ.o.2.blk zxr.o L1 zC;have zsA:=aD (sJ.o.2.blk zDf.o Qe zcW);have Hh:=aD (show eA W3 lo v {r with recs:=Me r i e} from sJ.o.1);have zmF:gb+2<=W3.heap.size:=by have:=Vx.o.size;have:=oS.o;have:=l5.o.2.size;have:=sJ.o.2.size;omega
 clear pY c0 c1 c2 c3 c4 c5 c6 fz k4 zo7;have k4:=aJ zcl 4;have k5:=aJ zcl 5;have fz:=eL zcl;obtain⟨c0,-,-,-,-,-,-⟩:=sJ.o.1.recAt zBx.o;have zGQ:=aD zcl;have Kr:=Hh.o.slcW;have Sg:=aD Kr;clear zcl Kr
 go_cut [] from 20 to 29 (λwx=>∃g c,wx.heap[gb]? =some (yA {v with gW:=g,cW:=c} (lE r i e))/\wx.heap[gb+1]? =some jX/\eA wx lo {v with gW:=g,cW:=c} (lE r i e)/\oF v w wx/\w.heap.size<=g/\gb+1<g)
 case first=>
  go_region_with (go_at_call 95;refine(zd9 lo W3.heap.size r.wait.length v.cW (some ⟨v.gW,0,none⟩) r.wait d.c W3.drew (Sg.o.keep (aX _) (λ_ _ _ _=>rfl)) K6).mono ?_;rintro x w4 ⟨_,rfl,g,cp,rfl,cP,b4⟩;have k0:=(eI b4 (L3 zGQ.o)).1;have k5:=aJ k0 5;have fz:=eL k0;have z4:=fP k0;have zg8:=aD cP;clear cP)
  all_goals
   go_wp2_with fail
   go_meet
   have pR:=Tc HD.o;have Pv:=Vx.o.size;have hg:W3.heap.size<=g:=(zg8.o.lt g rfl).1;have y6:∀b,b<W3.heap.size->b≠gb->(w4.setCell ⟨gb,5,none⟩ (.slice (some ⟨g,0,none⟩) (dX r.wait d.c).length cp)).heap[b]? =W3.heap[b]? :=λb hb aT=>(eH w4 _ _ b aT).trans (b4.block b hb);have l3:=Hh.o.lts;have eY:=fT.o;refine⟨g,cp,?_,(y6 _ (fP zsA.o) aC).trans zsA.o,?_,⟨b4.os.trans Vx.o.os,b4.tape.trans Vx.o.tape,b4.output.trans Vx.o.output,?_,λb hb h1 h2=>(y6 b aC aC).trans (Vx.o.block b hb h1 h2)⟩,aC,aC⟩
   .rw[nH k0,<-pR]
    rw[zBI v r i g cp e]
   .have a:=Hh.o.ap
    have hk:∀b,b<w.heap.size->W3.heap.size<=W3.heap.size:=λ_ _=>aX _;have row:(w4.setCell ⟨gb,5,none⟩ (.slice (some ⟨g,0,none⟩) (dX r.wait d.c).length cp)).ownsRow W3.heap.size 100 2 (.slice (some ⟨g,0,none⟩) (dX r.wait d.c).length cp) (dX r.wait d.c).length (bF (dX r.wait d.c)):=Bi zg8.o (eH w4 _ _ g (by show g≠gb;omega));have zih:∀{E s n:Nat} {A:Nat} {c:Nat} {xs:List aF},A<gb->W3.ownsRow lo E s (.slice (some ⟨A,0,none⟩) n c) n xs->(w4.setCell ⟨gb,5,none⟩ (.slice (some ⟨g,0,none⟩) (dX r.wait d.c).length cp)).ownsRow lo E s (.slice (some ⟨A,0,none⟩) n c) n xs:=λ{E s n A c xs} hA h=>Bi h (y6 A (h.lt A rfl).2 aC);have l0:=hl;refine⟨zih (by show v.gR<gb;omega) Hh.o.rc,?_,zih (by show v.gB<gb;omega) Hh.o.bk,zih (by show v.gL<gb;omega) Hh.o.lg,by simp only at*;omega⟩;have:=zlO row (base':=lo) aC;rw[<-pR] at this⊢;exact this
   .rw[tD];have:=b4.size;omega
 case rest=>
  obtain⟨g,c,kb,kr,hR,hT,hg,zDQ⟩:=hcut;have zFB:g<gb\/gb+1<g:=.inr zDQ;have k:=aJ kb;obtain⟨k0,k1,k2,k3,k4,k5,k6,k7⟩:=eP k;have q:=aJ kr;obtain⟨q0,q1,q2,q3,q4,q5,q6,q7⟩:=eP q;have qf:=eL kr;have HR:=aD hR;have HT:=aD hT;have HG:=aD hg;have jS:=aD kr;clear hR hT hg kb kr k q;go_wp2;have er:=aJ (zbq (a0:=.int .i64 (lE r i e).o.ln) (a1:=.int .i64 (lE r i e).o.op) (a2:=.int .i64 (lE r i e).o.pt) (a3:=.int .i64 (lE r i e).clk) (a4:=.slice (some ⟨v.gR,0,none⟩) (lE r i e).recs.length v.cR) (a5:=.slice (some ⟨g,0,none⟩) (lE r i e).wait.length c) (a6:=.slice (some ⟨v.gB,0,none⟩) (lE r i e).back.length v.cB) (a7:=.slice (some ⟨v.gL,0,none⟩) (lE r i e).log.length v.cL) jS.o);have l:=HR.o.lts;have eY:=fT.o;have zkL:=HG.o;have yH:=hl;have a:=HR.o.ap;refine bodyPost_ret (v:=.agg (fW {v with gW:=g,cW:=c} (lE r i e))) ?_ rfl ⟨g,c,rfl,HR.o.set8 ?_,HT.o.set8 aC,zkL⟩
  .unfold gT at er
   simp[results,Tryz.results96,go_sem,er]
  .have zj7:g<gb\/gb+1<g:=zFB
   simp only;omega
structure gQ (w0 w:aE)(lo gb k:Nat)(v0 v:fL)(r:bX):Prop where
 ok:eA w lo v r
 turn:oF v0 w0 w
 moved:wS gb v0 v
 base:gb=w0.heap.size
 blk:w.heap[gb]? =some (.cells (fW v r) 59)
 size:gb+k<=w.heap.size
 kpos:0<k
 aR:v.gR<gb\/gb+k<=v.gR
 aW:v.gW<gb\/gb+k<=v.gW
 aB:v.gB<gb\/gb+k<=v.gB
 aL:v.gL<gb\/gb+k<=v.gL
 lob:lo<=gb
section
variable {w0 w w':aE}{lo gb k:Nat}{v0 v:fL}{r:bX}
def gQ.keep (h:gQ w0 w lo gb k v0 v r)(b:bV w.heap.size w w'):gQ w0 w' lo gb k v0 v r:=
 ⟨h.ok.below b,h.turn.same (oF.of_below v0 b),h.moved,h.base,(b.block _ (fP h.blk)).trans h.blk,eG h.size b.size,h.kpos,h.aR,h.aW,h.aB,h.aL,h.lob⟩
def gQ.alloc (h:gQ w0 w lo gb k v0 v r)(o:tH):gQ w0 (w.alloc o) lo gb k v0 v r:=h.keep (dN (eF _ _) o)
def gQ.drew (h:gQ w0 w lo gb k v0 v r):gQ w0 w.drew lo gb k v0 v r:=h.keep ⟨rfl,rfl,rfl,aX _,λ_ _=>rfl⟩
def room_R (v:fL)(r:bX)(g c:Nat)(xs:List bR):(fW v r).setIfInBounds 4 (.slice (some ⟨g,0,none⟩) xs.length c)=fW {v with gR:=g,cR:=c} {r with recs:=xs}:=rfl
def room_W (v:fL)(r:bX)(g c:Nat)(xs:List bJ):(fW v r).setIfInBounds 5 (.slice (some ⟨g,0,none⟩) xs.length c)=fW {v with gW:=g,cW:=c} {r with wait:=xs}:=rfl
def zuP (v:fL)(r:bX)(g c:Nat)(xs:List bJ):(fW v r).setIfInBounds 6 (.slice (some ⟨g,0,none⟩) xs.length c)=fW {v with gB:=g,cB:=c} {r with back:=xs}:=rfl
def room_L (v:fL)(r:bX)(g c:Nat)(xs:List (List UInt8)):(fW v r).setIfInBounds 7 (.slice (some ⟨g,0,none⟩) xs.length c)=fW {v with gL:=g,cL:=c} {r with log:=xs}:=rfl
def zG {N g:Nat}{o:tH}(hb:w.grownBy w' (some g))(hN:w.heap[N]? =some o)(aT:N≠g):w'.heap[N]? =some o/\N<w'.heap.size:=
 ⟨(hb.block N (fP hN) (by simp;exact aT)).trans hN,lD (fP hN) hb.size⟩
variable {u:aF}
def ztp {row:Nat}{b i:Nat}(hg:w.grownBy w' (some row)){x:Nat}(hx:x<w.heap.size)(h1:x≠row)(h2:x≠b):(w'.setCell ⟨b,i,none⟩ u).heap[x]? =w.heap[x]? :=
 (eH w' _ _ x h2).trans (hg.block x hx (by simp;exact h1))
def eA.setCell {b i:Nat}(h:eA w lo v r)(hb:b≠v.gR/\b≠v.gW/\b≠v.gB/\b≠v.gL):eA (w.setCell ⟨b,i,none⟩ u) lo v r:=
 ⟨Bi h.rc (eH w _ _ _ (Ne.symm hb.1)),Bi h.wt (eH w _ _ _ (Ne.symm hb.2.1)),Bi h.bk (eH w _ _ _ (Ne.symm hb.2.2.1)),Bi h.lg (eH w _ _ _ (Ne.symm hb.2.2.2)),h.ap⟩
def gQ.appB {m g c:Nat}{x:bJ}(h:gQ w0 w lo gb k v0 v r)(hg:w.grownBy w' (some v.gB))(ho:w'.ownsRow lo 100 2 (.slice (some ⟨g,0,none⟩) m c) m (bF r.back++x.cells))(hm:m=r.back.length+1)(hw:g=v.gB\/g=w.heap.size):
 gQ w0 (w'.setCell ⟨gb,6,none⟩ (.slice (some ⟨g,0,none⟩) m c)) lo gb k v0 {v with gB:=g,cB:=c} {r with back:=r.back++[x]}:=by
 have hk:=h.ok.appB hg ho hm aC;have sz:=h.size;have kp:=h.kpos;have aR:=h.aR;have aW:=h.aW;have aB:=h.aB;have aL:=h.aL;have l:=h.ok.lts;have hs:=hg.size;have Mv:=h.base;have kb:=(zG hg h.blk aC).1;have zbK:g≠gb:=aC;refine⟨hk.setCell (by refine⟨?_,?_,?_,?_⟩<;>(simp only;omega)),?_,⟨h.moved.r,h.moved.w,?_,h.moved.l⟩,h.base,?_,?_,kp,aR,aW,?_,aL,h.lob⟩
 .have t:=h.turn
  have mb:=h.moved.b;refine⟨hg.os.trans t.os,hg.tape.trans t.tape,hg.output.trans t.output,?_,λb hb h1 h2=>?_⟩
  .rw[tD];have:=t.size;omega
  .exact(ztp hg zeG aC aC).trans (t.block b hb h1 h2)
 .have:=h.moved.b
  simp only;omega
 .rw[nH kb]
  have e:=zuP v r g c (r.back++[x]);rw[hm];simp only[gN,pT,rR] at e;exact congrArg (λa=>some (zq0 a 59)) e
 .rw[tD];omega
 .simp only;omega
def gQ.appR {m g c:Nat}{x:bR}(h:gQ w0 w lo gb k v0 v r)(hg:w.grownBy w' (some v.gR))(ho:w'.ownsRow lo 50 7 (.slice (some ⟨g,0,none⟩) m c) m (recs r.recs++x.cells))(hm:m=r.recs.length+1)(hw:g=v.gR\/g=w.heap.size):
 gQ w0 (w'.setCell ⟨gb,4,none⟩ (.slice (some ⟨g,0,none⟩) m c)) lo gb k v0 {v with gR:=g,cR:=c} {r with recs:=r.recs++[x]}:=by
 have hk:=h.ok.appR hg ho hm aC;have sz:=h.size;have kp:=h.kpos;have aR:=h.aR;have aW:=h.aW;have aB:=h.aB;have aL:=h.aL;have l:=h.ok.lts;have hs:=hg.size;have Mv:=h.base;have kb:=(zG hg h.blk aC).1;have zbK:g≠gb:=aC;refine⟨hk.setCell (by refine⟨?_,?_,?_,?_⟩<;>(simp only;omega)),?_,⟨?_,h.moved.w,h.moved.b,h.moved.l⟩,h.base,?_,?_,kp,?_,aW,aB,aL,h.lob⟩
 .have t:=h.turn
  have mb:=h.moved.r;refine⟨hg.os.trans t.os,hg.tape.trans t.tape,hg.output.trans t.output,?_,λb hb h1 h2=>?_⟩
  .rw[tD];have:=t.size;omega
  .exact(ztp hg zeG aC aC).trans (t.block b hb h1 h2)
 .have:=h.moved.r
  simp only;omega
 .rw[nH kb]
  have e:=room_R v r g c (r.recs++[x]);rw[hm];simp only[gN,pT,rR] at e;exact congrArg (λa=>some (zq0 a 59)) e
 .rw[tD];omega
 .simp only;omega
variable {xs:List bJ}
def gQ.setW {g c n:Nat}(h:gQ w0 w lo gb k v0 v r)(b:bV n w w')(ho:w'.ownsRow n 100 2 (.slice (some ⟨g,0,none⟩) xs.length c) xs.length (bF xs))(hn:n=w.heap.size):
 gQ w0 (w'.setCell ⟨gb,5,none⟩ (.slice (some ⟨g,0,none⟩) xs.length c)) lo gb k v0 {v with gW:=g,cW:=c} {r with wait:=xs}:=by
 subst hn;have hg:=(ho.lt g rfl).1;have sz:=h.size;have l:=h.ok.lts;have Mv:=h.base;have lob:=h.lob;have hk:=h.ok.newW (w':=w') (λx hx=>b.block x hx) (zlO ho aC) rfl hg;have kp:=h.kpos;have aR:=h.aR;have aW:=h.aW;have aB:=h.aB;have aL:=h.aL;have hs:=b.size;have kb:=(eI b h.blk).1;refine⟨hk.setCell (by refine⟨?_,?_,?_,?_⟩<;>(simp only;omega)),?_,⟨h.moved.r,.inr Lt,h.moved.b,h.moved.l⟩,h.base,?_,?_,kp,aR,.inr Lt,aB,aL,h.lob⟩
 .have t:=h.turn
  refine⟨b.os.trans t.os,b.tape.trans t.tape,b.output.trans t.output,?_,λy hy h1 h2=>?_⟩
  .rw[tD];have:=t.size;omega
  .exact((eH w' _ _ y zj0).trans (b.block y zeG)).trans (t.block y hy h1 h2)
 .rw[nH kb]
  rw[room_W v r g c xs]
 .rw[tD];omega
def gQ.setB {g c n:Nat}(h:gQ w0 w lo gb k v0 v r)(b:bV n w w')(ho:w'.ownsRow n 100 2 (.slice (some ⟨g,0,none⟩) xs.length c) xs.length (bF xs))(hn:n=w.heap.size):
 gQ w0 (w'.setCell ⟨gb,6,none⟩ (.slice (some ⟨g,0,none⟩) xs.length c)) lo gb k v0 {v with gB:=g,cB:=c} {r with back:=xs}:=by
 subst hn;have hg:=(ho.lt g rfl).1;have sz:=h.size;have l:=h.ok.lts;have Mv:=h.base;have lob:=h.lob;have hk:=h.ok.newB (w':=w') (λx hx=>b.block x hx) (zlO ho aC) rfl hg;have kp:=h.kpos;have aR:=h.aR;have aW:=h.aW;have aB:=h.aB;have aL:=h.aL;have hs:=b.size;have kb:=(eI b h.blk).1;refine⟨hk.setCell (by refine⟨?_,?_,?_,?_⟩<;>(simp only;omega)),?_,⟨h.moved.r,h.moved.w,.inr Lt,h.moved.l⟩,h.base,?_,?_,kp,aR,aW,.inr Lt,aL,h.lob⟩
 .have t:=h.turn
  refine⟨b.os.trans t.os,b.tape.trans t.tape,b.output.trans t.output,?_,λy hy h1 h2=>?_⟩
  .rw[tD];have:=t.size;omega
  .exact((eH w' _ _ y zj0).trans (b.block y zeG)).trans (t.block y hy h1 h2)
 .rw[nH kb]
  rw[zuP v r g c xs]
 .rw[tD];omega
def gQ.setR {i j:Nat}{d:bR}(f:bR->bR)(h:gQ w0 w lo gb k v0 v r)(hd:r.recs[i]? =some d)(hj:j<7)(hs:∀k,k<7->k≠j->(f d).cells[k]? =d.cells[k]?)(hv:(f d).cells[j]? =some u):
 gQ w0 (w.setCell ⟨v.gR,i*7+j,none⟩ u) lo gb k v0 v {r with recs:=r.recs.modify i f}:=by
 obtain⟨h1,h2⟩:=h.ok.setR f hd hj hs hv;have l:=h.ok.lts;have Mv:=h.base;have mr:=h.moved.r;have kp:=h.kpos;have aR:=h.aR;have sz:=h.size;refine⟨h1,?_,h.moved,h.base,?_,by rw[tD];exact h.size,h.kpos,h.aR,h.aW,h.aB,h.aL,h.lob⟩
 .have t:=h.turn
  refine⟨t.os,t.tape,t.output,by rw[tD];exact t.size,λy hy e1 e2=>?_⟩;exact(eH w _ _ y (by show y≠v.gR;omega)).trans (t.block y hy e1 e2)
 .have e:(w.setCell ⟨v.gR,i*7+j,none⟩ u).heap[gb]? =w.heap[gb]? :=eH w _ _ gb (by show gb≠v.gR;omega)
  rw[e,h.blk];simp only[fW,fL.sR,F6]
def gQ.turned {n:Nat}{v':fL}{r':bX}(h:gQ w0 w lo gb k v0 v r)(ho:eA w' lo v' r')(t:oF v w w')(m:wS n v v')(hn:n=w.heap.size):
 eA w' lo v' r'/\oF v0 w0 w'/\wS gb v0 v'/\w'.heap[gb]? =some (.cells (fW v r) 59):=by
 have Mv:=h.base;have sz:=h.size;have kp:=h.kpos;have aR:=h.aR;have aB:=h.aB;exact⟨ho,h.turn.trans t h.moved aC,h.moved.trans m aC,t.blk h.blk aC aC⟩
def gQ.done {b:Nat}{a0 a1 a2 a3 a4 a5 a6 a7:aF}(h:gQ w0 w lo gb k v0 v r)(hb:gb<=b/\b<gb+k):eA (gT w b a0 a1 a2 a3 a4 a5 a6 a7) lo v r/\oF v0 w0 (gT w b a0 a1 a2 a3 a4 a5 a6 a7)/\wS w0.heap.size v0 v:=by
 have aR:=h.aR;have aW:=h.aW;have aB:=h.aB;have aL:=h.aL;have Mv:=h.base;exact⟨h.ok.set8 aC,h.turn.set8 aC,Mv▸h.moved⟩
def Ae {a:bL}{v:aF}(h:w.cell? a=some v)(o:tH):(w.alloc o).cell? a=some v:=(aE.cell?_alloc_some w a o (by rw[h];rfl)).trans h
end
def sU {z0 z1 z2 z3 z4 z5 z6 z7:aF}(v:fL)(r:bX)(h:w.heap[b]? =some (.cells #[z0,z1,z2,z3,z4,z5,z6,z7] T)):
 (gT w b (.int .i64 r.o.ln) (.int .i64 r.o.op) (.int .i64 r.o.pt) (.int .i64 r.clk) (v.sR r) (v.sW r) (v.sB r) (v.sL r)).heap[b]? =some (.cells #[.int .i64 r.o.ln,.int .i64 r.o.op,.int .i64 r.o.pt,.int .i64 r.clk,v.sR r,v.sW r,v.sB r,v.sL r] T):=zbq h
def zgF (h:eA w lo v r)(dW:lo<=w.heap.size):∃(gb:Nat) (O Z:tH),qC (gb=w.heap.size)/\qC (O=.cells (fW v r) 59)/\qC (Z=.cells #[.int .i64 0,.int .i64 0,.int .i64 0,.int .i64 0,.slice none 0 0,.slice none 0 0,.slice none 0 0,.slice none 0 0] 59)/\
 qC (gQ w ((w.alloc O).alloc Z) lo gb 2 v v r)/\qC (((w.alloc O).alloc Z).heap[gb+1]? =some jX)/\qC (((w.alloc O).alloc Z).heap.size=gb+2)/\qC (v.gR<gb/\v.gW<gb/\v.gB<gb/\v.gL<gb):=by
 obtain⟨gb,eY⟩:=aU w.heap.size;have hl:=h.lts;obtain⟨O,hO⟩:=aU (.cells (fW v r) 59:tH);obtain⟨Z,hZ⟩:=aU (jX:tH);have jC:((w.alloc O).alloc Z).heap[gb]? =some (yA v r):=by rw[hO,eY];exact dB (lF _ _) _
 have nZ:((w.alloc O).alloc Z).heap[gb+1]? =some jX:=by rw[<-hZ];exact mI _ _ Vy
 have eB:((w.alloc O).alloc Z).heap.size=gb+2:=by rw[eY];simp
 have eZ:=aD (show gQ w ((w.alloc O).alloc Z) lo gb 2 v v r from⟨(h.alloc O).alloc Z,oF.of_below v (dN (dN (eF _ _) _) _),wS.refl _ _,eY,jC,by rw[eB];exact aX _,aC,.inl aC,.inl aC,.inl aC,.inl aC,aC⟩);have oS:=aD eB;have jS:=aD nZ;have HO:=aD hO;have HZ:=aD (show Z=.cells #[.int .i64 0,.int .i64 0,.int .i64 0,.int .i64 0,.slice none 0 0,.slice none 0 0,.slice none 0 0,.slice none 0 0] 59 from hZ);have fT:=aD eY;have HL:=aD (show v.gR<gb/\v.gW<gb/\v.gB<gb/\v.gL<gb by omega);exact⟨gb,O,Z,fT,HO,HZ,eZ,jS,oS,HL⟩
def zyI {u:Nat}(h:9<u):Lg u=Lg (u/10)++[Uy (48+u%10)]:=by
 rw[Lg,dif_neg aC]
def zbj (k:Nat)(hk:k<=100000000)(w:aE):
 fN aK 94 #[.int .i64 k] w λe w'=>e=.returned (.string ⟨(J9 k).toArray⟩)/\bV w.heap.size w w':=by
 have hI:=aD (Lib.itoa_nonneg k)
 go_enter Tryz.func94,Tryz.ntmps94
 go_wp2
 go_loopw [0,3] (λa s wr=>∃(u:Nat) (l:List UInt8),a=.int .i64 u/\s=.string ⟨l.toArray⟩/\u<=100000000/\Lg u++l=Lg k/\bV w.heap.size w wr) (λa _ _=>(intOf a).toNat)
 case atStart=>exact⟨k,[],rfl,rfl,hk,List.append_nil _,eF _ _⟩
 case round=>
  obtain⟨u,l,rfl,rfl,hu,hl,B⟩:=hrel;have HL:=aD hl;have E6:l.length<=20:=by have:=congrArg Zm HL.o;rw[gN] at this;have:=Nk (k:=k) aC;omega
  by_cases aN:9<u
  .have zbi:=cv1 wr (48+u%10) aC
   rw[show((48+u%10:Nat):Int)=48+(u:Int)%10 by omega] at zbi;have HD:=aD (zyI aN);go_wp2;go_roundw
   case rel=>exact⟨u/10,Uy (48+u%10)::l,by first|rfl|(congr 1;omega),by rw[I9];simp,aC,by rw[<-HL.o,HD.o];simp,dN B _⟩
   case measure=>simp[intOf];omega
  .have zbi:=cv1 wr (48+u) aC
   rw[show((48+u:Nat):Int)=48+(u:Int) by omega] at zbi;have HT:=aD (show(⟨[Uy (48+u)].toArray⟩:ByteArray)++⟨l.toArray⟩=⟨(J9 k).toArray⟩ by rw[I9,hI.o,<-HL.o,zvS aC];simp);go_wp2;go_ret;exact⟨congrArg (λx=>zin (aF.string x)) (by rw[<-HT.o];simp),dN B _⟩
end Go.Proofs.YtfcjiloojkjaeaaGreatDoor
namespace Go.Tt
abbrev Pr:=Nat->Nat->Prop
def Pr.le (R R':Pr):Prop:=∀a b,R a b->R' a b
def Pr.le.refl (R:Pr):R.le R:=λ_ _ h=>h
variable {R R':Pr}
def Pr.le.trans {Pw:Pr}(h:R.le R')(h':R'.le Pw):R.le Pw:=λa b x=>h' a b (h a b x)
def Pr.add (R:Pr)(n n':Nat):Pr:=λa b=>R a b\/(a=n/\b=n')
def Pr.le_add (R:Pr)(n n':Nat):R.le (R.add n n'):=λ_ _ h=>.inl h
inductive fX (R:Pr):bL->bL->Prop
 |mk {b b' o:Nat} {s:Option Nat}:R b b'->fX R ⟨b,o,s⟩ ⟨b',o,s⟩
inductive wK (R:Pr):Option bL->Option bL->Prop
 |none:wK R none none
 |some {a a':bL}:fX R a a'->wK R (some a) (some a')
inductive D7 (R:Pr):Option Nat->Option Nat->Prop
 |none:D7 R none none
 |some {a a':Nat}:R a a'->D7 R (some a) (some a')
def Pr.or (R K:Pr):Pr:=λa b=>R a b\/K a b
variable {K:Pr}
def Pr.or_mono (h:R.le R'):(R.or K).le (R'.or K):=λa b x=>x.imp (h a b) id
def HidV:aF->Prop
 | .agg _| .tuple _| .bool _| .nilIface=>False
 |_=>True
inductive VR (S:aP->Prop)(K R:Pr):aF->aF->Prop
 |bool (b:Bool):VR S K R (.bool b) (.bool b)
 |int (k:Ec) (n:Int):VR S K R (.int k n) (.int k n)
 |string (s:ByteArray):VR S K R (.string s) (.string s)
 |nilFunc:VR S K R .nilFunc .nilFunc
 |nilIface:VR S K R .nilIface .nilIface
 |pointer {a a':Option bL}:wK R a a'->VR S K R (.pointer a) (.pointer a')
 |slice {a a':Option bL} {n c:Nat}:wK R a a'->VR S K R (.slice a n c) (.slice a' n c)
 |map {a a':Option Nat}:D7 R a a'->VR S K R (.map a) (.map a')
 |chan {a a':Option Nat}:D7 (R.or K) a a'->VR S K R (.chan a) (.chan a')
 |func {f:aP} {xs bY ys Wz:Array aF}:S f->xs.size=bY.size->(∀(i:Nat) (v v':aF),xs[i]? =some v->bY[i]? =some v'->VR S K R v v')->
  ys.size=Wz.size->(∀(i:Nat) (v v':aF),ys[i]? =some v->Wz[i]? =some v'->VR S K R v v')->VR S K R (.func (.func f) xs ys) (.func (.func f) bY Wz)
 |iface {t:aM} {v v':aF}:VR S K R v v'->VR S K R (.iface t v) (.iface t v')
 |agg {xs bY:Array aF}:xs.size=bY.size->(∀(i:Nat) (v v':aF),xs[i]? =some v->bY[i]? =some v'->VR S K R v v')->VR S K R (.agg xs) (.agg bY)
 |tuple {xs bY:Array aF}:xs.size=bY.size->(∀(i:Nat) (v v':aF),xs[i]? =some v->bY[i]? =some v'->VR S K R v v')->VR S K R (.tuple xs) (.tuple bY)
 |junk {v':aF}:HidV v'->VR S K R .nilFunc v'
def bK (S:aP->Prop)(K R:Pr)(xs bY:Array aF):Prop:=xs.size=bY.size/\∀(i:Nat) (v v':aF),xs[i]? =some v->bY[i]? =some v'->VR S K R v v'
section
variable {S:aP->Prop}{K R R':Pr}
def fX.mono (h:R.le R'){a a':bL}(x:fX R a a'):fX R' a a':=by cases x with|mk x=>exact .mk (h _ _ x)
def wK.mono (h:R.le R'){a a':Option bL}(x:wK R a a'):wK R' a a':=by cases x with|none=>exact .none|some x=>exact .some (x.mono h)
def D7.mono (h:R.le R'){a a':Option Nat}(x:D7 R a a'):D7 R' a a':=by cases x with|none=>exact .none|some x=>exact .some (h _ _ x)
variable {v v':aF}
def VR.mono (h:R.le R')(x:VR S K R v v'):VR S K R' v v':=by
 induction x with
 |bool b=>exact .bool b
 |int k n=>exact .int k n
 |string s=>exact .string s
 |nilFunc=>exact .nilFunc
 |nilIface=>exact .nilIface
 |pointer x=>exact .pointer (x.mono h)
 |slice x=>exact .slice (x.mono h)
 |map x=>exact .map (x.mono h)
 |chan x=>exact .chan (x.mono (Pr.or_mono h))
 |func s e1 _ e2 _ i1 i2=>exact .func s e1 i1 e2 i2
 |iface _ ih=>exact .iface ih
 |agg e _ ih=>exact .agg e ih
 |tuple e _ ih=>exact .tuple e ih
 |junk h=>exact .junk h
variable {xs bY:Array aF}
def bK.mono (h:R.le R')(x:bK S K R xs bY):bK S K R' xs bY:=⟨x.1,λi v v' h1 h2=>(x.2 i v v' h1 h2).mono h⟩
variable {i:Nat}
def bK.get (x:bK S K R xs bY)(h:xs[i]? =some v):∃v',bY[i]? =some v'/\VR S K R v v':=by
 have hi:i<bY.size:=by rw[<-x.1];exact(dP.1 h).1
 exact⟨bY[i],mE hi,x.2 i _ _ h (mE hi)⟩
def bK.none (x:bK S K R xs bY)(h:xs[i]? =none):bY[i]? =none:=by
 rw[zwJ] at h⊢;rw[<-x.1];exact h
def bK.getD (x:bK S K R xs bY)(i:Nat){d d':aF}(hd:VR S K R d d'):VR S K R (xs.getD i d) (bY.getD i d'):=by
 rw[tJ,tJ]
 cases h:xs[i]? with
 |none=>rw[x.none h];exact hd
 |some v=>obtain⟨v',h',hv⟩:=x.get h;rw[h'];exact hv
def bK.set (x:bK S K R xs bY)(i:Nat)(hv:VR S K R v v'):bK S K R (xs.setIfInBounds i v) (bY.setIfInBounds i v'):=by
 refine⟨by simp[x.1],λj u u' h h'=>?_⟩;by_cases e:i=j
 .subst e
  rw[Array.getElem?_setIfInBounds] at h h';simp only[if_true] at h h';split at h<;>split at h'<;>simp_all
 .rw[jV e] at h h'
  exact x.2 j u u' h h'
def bK.push (x:bK S K R xs bY)(hv:VR S K R v v'):bK S K R (xs.push v) (bY.push v'):=by
 refine⟨by simp[x.1],λj u u' h h'=>?_⟩;rw[Vr] at h h';rw[<-x.1] at h';split at h
 .rename_i e;rw[if_pos e] at h';injection h with h;injection h' with h';subst h h';exact hv
 .rename_i e;rw[if_neg e] at h';exact x.2 j u u' h h'
def bK.append {ys Wz:Array aF}(x:bK S K R xs bY)(y:bK S K R ys Wz):bK S K R (xs++ys) (bY++Wz):=by
 refine⟨by simp[x.1,y.1],λj u u' h h'=>?_⟩;rw[Array.getElem?_append] at h h';rw[<-x.1] at h';split at h
 .rename_i e;rw[if_pos e] at h';exact x.2 j u u' h h'
 .rename_i e;rw[if_neg e] at h';exact y.2 _ u u' h h'
def bK.empty:bK S K R #[] #[]:=⟨rfl,λi v v' h=>by simp at h⟩
def bK.one (h:VR S K R v v'):bK S K R #[v] #[v']:=bK.empty.push h
def bK.extract (x:bK S K R xs bY)(i j:Nat):bK S K R (xs.extract i j) (bY.extract i j):=by
 refine⟨by simp[x.1],λk u u' h h'=>?_⟩;rw[Array.getElem?_extract] at h h';split at h
 .rename_i e;rw[<-x.1,if_pos e] at h';exact x.2 _ u u' h h'
 .cases h
def VR.agg' (x:bK S K R xs bY):VR S K R (.agg xs) (.agg bY):=.agg x.1 x.2
def VR.tuple' (x:bK S K R xs bY):VR S K R (.tuple xs) (.tuple bY):=.tuple x.1 x.2
def VR.cells (x:VR S K R v v'):bK S K R v.cells v'.cells:=by
 cases x with
 |agg e h=>exact⟨e,h⟩
 |bool b=>exact .one (.bool b)
 |int k n=>exact .one (.int k n)
 |string s=>exact .one (.string s)
 |nilFunc=>exact .one .nilFunc
 |nilIface=>exact .one .nilIface
 |pointer x=>exact .one (.pointer x)
 |slice x=>exact .one (.slice x)
 |map x=>exact .one (.map x)
 |chan x=>exact .one (.chan x)
 |func s e1 h1 e2 h2=>exact .one (.func s e1 h1 e2 h2)
 |iface x=>exact .one (.iface x)
 |tuple e h=>exact .one (.tuple e h)
 |junk h=>
  have e:v'.cells=#[v']:=by cases v'<;>first|rfl|exact h.elim
  rw[e];exact .one (.junk h)
end
structure dM where
 c:bS
 fs:Array Func
 op:aP->Bool
 lw:aP->Bool
 gs:aP->Bool
 dy:Bool
abbrev dM.g (P:dM):Program:={P.c with funcs:=P.fs}
abbrev dM.underlying (P:dM)(t:aM):=P.c.underlying t
abbrev dM.info? (P:dM)(t:aM):=P.c.info? t
abbrev dM.globals (P:dM):=P.c.globals
def Ap (p:bS)(g:Nat):Bool:=match p.globals[g]? with|some x=>(match p.underlying x.type with|some (.array _ _)=>true|_=>false)|none=>false
structure Gp where
 n:Nat
 tab:Nat->Bool
abbrev o6 (p:bS):Gp:=⟨p.globals.size,Ap p⟩
abbrev dM.gp (P:dM):Gp:=o6 P.c
def dM.underlying_g (P:dM)(t:aM):P.g.underlying t=P.c.underlying t:=rfl
def dM.info_g (P:dM)(t:aM):P.g.info? t=P.c.info? t:=rfl
def dM.cells_g (P:dM)(t:aM):P.g.cellsOf t=P.c.cellsOf t:=rfl
def dM.bytes_g (P:dM)(t:aM):P.g.bytesOf t=P.c.bytesOf t:=rfl
def dM.depth_g (P:dM):P.g.depth=P.c.depth:=rfl
def dM.byteOfCell_g (P:dM):∀(d:Nat) (t:aM) (o:Nat),byteOfCell P.g d t o=byteOfCell P.c d t o:=by
 intro d
 induction d with
 |zero=>intro t o;rfl
 |succ d ih=>
  intro t o;unfold byteOfCell;rw[P.underlying_g];simp only[ih,P.cells_g,P.bytes_g];rfl
def dM.globals_g (P:dM):P.g.globals=P.c.globals:=rfl
inductive B8 (S:aP->Prop)(K R:Pr):oP->oP->Prop
 |mk {k k' v v':aF} {born:Nat}:VR S K R k k'->VR S K R v v'->B8 S K R ⟨k,v,born⟩ ⟨k',v',born⟩
def qH (S:aP->Prop)(K R:Pr)(es fE:Array oP):Prop:=es.size=fE.size/\∀(i:Nat) (e e':oP),es[i]? =some e->fE[i]? =some e'->B8 S K R e e'
def Lr (fz:Nat×Nat)(o:Nat):Prop:=fz.1<=o/\o<fz.2
inductive oO (S:aP->Prop)(K R:Pr):tH->tH->Prop
 |cells {c c':Array aF} {T:aM} {fz Iz:Nat×Nat}:bK S K R c c'->(∀o,Lr Iz o->Lr fz o)->oO S K R (.cells c T fz) (.cells c' T Iz)
 |map {es fE:Array oP} {cl:Nat}:qH S K R es fE->oO S K R (.map es cl) (.map fE cl)
 |chan {cap s r:Nat} {Lx zuM:Array aF} {closed tm:Bool}:bK S K R Lx zuM->oO S K R (.chan cap Lx closed s r tm) (.chan cap zuM closed s r tm)
 |stringIter (s:ByteArray) (pos:Nat):oO S K R (.stringIter s pos) (.stringIter s pos)
 |number {a a':bL} {lost:Bool}:fX R a a'->oO S K R (.number a lost) (.number a' lost)
 |mapIter {m m':Option Nat} {since stepped:Nat} {seen:Array Nat}:D7 R m m'->oO S K R (.mapIter m since seen stepped) (.mapIter m' since seen stepped)
section
variable {S:aP->Prop}{K R R':Pr}
def B8.mono (h:R.le R'){e e':oP}(x:B8 S K R e e'):B8 S K R' e e':=by cases x with|mk a b=>exact .mk (a.mono h) (b.mono h)
def qH.mono (h:R.le R'){e e':Array oP}(x:qH S K R e e'):qH S K R' e e':=⟨x.1,λi a b h1 h2=>(x.2 i a b h1 h2).mono h⟩
def oO.mono (h:R.le R'){o o':tH}(x:oO S K R o o'):oO S K R' o o':=by
 cases x with
 |cells a b=>exact .cells (a.mono h) b
 |map a=>exact .map (a.mono h)
 |chan a=>exact .chan (a.mono h)
 |stringIter s p=>exact .stringIter s p
 |number a=>exact .number (a.mono h)
 |mapIter a=>exact .mapIter (a.mono h)
end
def oY:Obj:=.cells #[] 0
structure tZ (P:dM)(K R:Pr):Prop where
 inj:∀a b c,R.or K a b->R.or K a c->b=c
 inj':∀a b c,R.or K a c->R.or K b c->a=b
 low:∀a b,R a b->(a<P.globals.size↔b<P.globals.size)
 tb:∀g,Ap P.c g=true->R g g
structure Fresh (P:dM)(K R:Pr)(n n':Nat):Prop where
 l:∀b,¬R.or K n b
 r:∀a,¬R.or K a n'
 low:P.globals.size<=n/\P.globals.size<=n'
structure xW (P:dM)(K R R':Pr):Prop where
 le:R.le R'
 ok:tZ P K R->tZ P K R'
variable {P:dM}
def xW.refl (R:Pr):xW P K R R:=⟨.refl R,id⟩
def xW.trans {Pw:Pr}(h:xW P K R R')(h':xW P K R' Pw):xW P K R Pw:=⟨h.le.trans h'.le,λx=>h'.ok (h.ok x)⟩
def xW.add {n n':Nat}(f:Fresh P K R n n'):xW P K R (R.add n n'):=by
 refine⟨Pr.le_add R n n',λh=>⟨?_,?_,?_,λg hg=>.inl (h.tb g hg)⟩⟩
 .rintro a b c ((x|⟨rfl,rfl⟩)|x) ((y|⟨e,rfl⟩)|y)
  .exact h.inj a b c (.inl x) (.inl y)
  .exact absurd (.inl (e▸x)) (f.l _)
  .exact h.inj a b c (.inl x) (.inr y)
  .exact absurd (.inl y) (f.l _)
  .rfl
  .exact absurd (.inr y) (f.l _)
  .exact h.inj a b c (.inr x) (.inl y)
  .exact absurd (.inr (e▸x)) (f.l _)
  .exact h.inj a b c (.inr x) (.inr y)
 .rintro a b c ((x|⟨rfl,rfl⟩)|x) ((y|⟨rfl,e⟩)|y)
  .exact h.inj' a b c (.inl x) (.inl y)
  .exact absurd (.inl (e▸x)) (f.r _)
  .exact h.inj' a b c (.inl x) (.inr y)
  .exact absurd (.inl y) (f.r _)
  .rfl
  .exact absurd (.inr y) (f.r _)
  .exact h.inj' a b c (.inr x) (.inl y)
  .exact absurd (.inr (e▸x)) (f.r _)
  .exact h.inj' a b c (.inr x) (.inr y)
 .rintro a b (x|⟨rfl,rfl⟩)
  .exact h.low a b x
  .have:=f.low;omega
def Xd:Halt->Prop
 | .panic _| .stuck _=>True
 | .unsupported (.initOrder _)=>False
 | .unsupported _=>True
 |_=>False
def Br (w:aE):Prop:=∀(b:Nat) (c:Array aF) (e:aM),w.heap[b]?≠some (.pending c e)
def fC (P:dM){α:Type}(s:cU α):Prop:=∀w,Br w->∃h w',s.run P.g w=.halt h w'/\Xd h
variable {α:Type}{w:aE}
def fC.no {s:cU α}(h:fC P s)(hw:Br w)(x:α)(w':aE):s.run P.g w≠ .ok x w':=by
 obtain⟨_,_,e,_⟩:=h w hw;rw[e];simp
variable {β:Type}
def fC.bind {s:cU α}(h:fC P s)(f:α->cU β):fC P (s.bind f):=by
 intro w hw;obtain⟨y,w1,e,ht⟩:=h w hw;exact⟨y,w1,by rw[sE,e];rfl,ht⟩
def Ix (P:dM)(S:aP->Prop)(K:Pr){α β:Type}(A:Pr->α->β->Prop):cU α->Pr->cU β->Prop
 | .pure a,R,s'=>∃b,s'=.pure b/\A R a b
 | .load m a k,R,s'=>m=.plain/\∃a' k',s'=.load .plain a' k'/\fX R a a'/\∀v v',VR S K R v v'->fC P (k v)\/Ix P S K A (k v) R (k' v')
 | .store m a v k,R,s'=>m=.plain/\∃a' v' k',s'=.store .plain a' v' k'/\fX R a a'/\VR S K R v v'/\(fC P k\/Ix P S K A k R k')
 | .new o k,R,s'=>∃o' k',s'=.new o' k'/\oO S K R o o'/\∀n n',Fresh P K R n n'->fC P (k n)\/Ix P S K A (k n) (R.add n n') (k' n')
 | .shape r k,R,s'=>∃r' k',s'=.shape r' k'/\R r r'/\∀x,fC P (k x)\/Ix P S K A (k x) R (k' x)
 | .freeze _ _ _,_,_=>False
 | .frozen a k,R,s'=>∃a' k',s'=.frozen a' k'/\∀x x',fC P (k x)\/Ix P S K A (k x) R (k' x')
 | .getObj r k,R,s'=>∃r' k',s'=.getObj r' k'/\R.or K r r'/\∀o o',oO S K R o o'->fC P (k o)\/Ix P S K A (k o) R (k' o')
 | .setObj r o k,R,s'=>∃r' o' k',s'=.setObj r' o' k'/\R.or K r r'/\oO S K R o o'/\(fC P k\/Ix P S K A k R k')
 | .choose q k,R,s'=>∃k',s'=.choose q k'/\∀n,fC P (k n)\/Ix P S K A (k n) R (k' n)
 | .sys _ _,_,_=>False
 | .program k,R,s'=>∃k',s'=.program k'/\(fC P (k P.g)\/Ix P S K A (k P.g) R (k' P.c))
 | .mark m k,R,s'=>m=.noRoom/\∃k',s'=.mark .noRoom k'/\(fC P k\/Ix P S K A k R k')
 | .halt _,_,_=>False
def aG (P:dM)(S:aP->Prop)(K:Pr){α β:Type}(A:Pr->α->β->Prop)(s:cU α)(R:Pr)(s':cU β):Prop:=fC P s\/Ix P S K A s R s'
section
variable {P:dM}{S:aP->Prop}{K:Pr}{α β γ δ:Type}{A:Pr->α->β->Prop}{B:Pr->γ->δ->Prop}
def aG.pure {R:Pr}{a:α}{b:β}(h:A R a b):aG P S K A (.pure a) R (.pure b):=.inr ⟨b,rfl,h⟩
def fC.halt {h:Halt}(ht:Xd h):fC P (.halt h:cU α):=λw _=>⟨h,w,rfl,ht⟩
def aG.bind {s:cU α}:∀{R:Pr} {s':cU β} {f:α->cU γ} {f':β->cU δ},aG P S K A s R s'->(∀R',xW P K R R'->∀a b,A R' a b->aG P S K B (f a) R' (f' b))->aG P S K B (s.bind f) R (s'.bind f'):=by
 induction s with
 |pure a=>
  rintro R s' f f' (hn|⟨b,rfl,h⟩) hf
  .exact .inl (hn.bind _)
  .exact hf R (.refl R) a b h
 |load m a k ih=>
  rintro R s' f f' (hn|⟨hm,a',k',rfl,ha,hk⟩) hf
  .exact .inl (hn.bind _)
  .exact .inr ⟨hm,a',_,rfl,ha,λv v' hv=>ih v (hk v v' hv) hf⟩
 |store m a v k ih=>
  rintro R s' f f' (hn|⟨hm,a',v',k',rfl,ha,hv,hk⟩) hf
  .exact .inl (hn.bind _)
  .exact .inr ⟨hm,a',v',_,rfl,ha,hv,ih hk hf⟩
 |new o k ih=>
  rintro R s' f f' (hn|⟨o',k',rfl,ho,hk⟩) hf
  .exact .inl (hn.bind _)
  .exact .inr ⟨o',_,rfl,ho,λn n' fQ=>ih n (hk n n' fQ) λR' hR a b h=>hf R' ((xW.add fQ).trans hR) a b h⟩
 |shape r k ih=>
  rintro R s' f f' (hn|⟨r',k',rfl,hr,hk⟩) hf
  .exact .inl (hn.bind _)
  .exact .inr ⟨r',_,rfl,hr,λx=>ih x (hk x) hf⟩
 |freeze a n k ih=>
  rintro R s' f f' (hn|h) hf
  .exact .inl (hn.bind _)
  .exact h.elim
 |frozen a k ih=>
  rintro R s' f f' (hn|⟨r',k',rfl,hk⟩) hf
  .exact .inl (hn.bind _)
  .exact .inr ⟨r',_,rfl,λx x'=>ih x (hk x x') hf⟩
 |getObj r k ih=>
  rintro R s' f f' (hn|⟨r',k',rfl,hr,hk⟩) hf
  .exact .inl (hn.bind _)
  .exact .inr ⟨r',_,rfl,hr,λo o' ho=>ih o (hk o o' ho) hf⟩
 |setObj r o k ih=>
  rintro R s' f f' (hn|⟨r',o',k',rfl,hr,ho,hk⟩) hf
  .exact .inl (hn.bind _)
  .exact .inr ⟨r',o',_,rfl,hr,ho,ih hk hf⟩
 |choose q k ih=>
  rintro R s' f f' (hn|⟨k',rfl,hk⟩) hf
  .exact .inl (hn.bind _)
  .exact .inr ⟨_,rfl,λn=>ih n (hk n) hf⟩
 |sys c k ih=>
  rintro R s' f f' (hn|h) hf
  .exact .inl (hn.bind _)
  .exact h.elim
 |program k ih=>
  rintro R s' f f' (hn|⟨k',rfl,hk⟩) hf
  .exact .inl (hn.bind _)
  .exact .inr ⟨_,rfl,ih P.g hk hf⟩
 |mark m k ih=>
  rintro R s' f f' (hn|⟨rfl,k',rfl,hk⟩) hf
  .exact .inl (hn.bind _)
  .exact .inr ⟨rfl,_,rfl,ih hk hf⟩
 |halt h=>
  rintro R s' f f' (hn|hx) _
  .exact .inl (hn.bind _)
  .exact hx.elim
def aG.mono {A':Pr->α->β->Prop}{s:cU α}:∀{R:Pr} {s':cU β},aG P S K A s R s'->(∀R',xW P K R R'->∀a b,A R' a b->A' R' a b)->aG P S K A' s R s':=by
 induction s with
 |pure a=>
  rintro R s' (hn|⟨b,rfl,h⟩) hf
  .exact .inl hn
  .exact .inr ⟨b,rfl,hf R (.refl R) a b h⟩
 |load m a k ih=>
  rintro R s' (hn|⟨hm,a',k',rfl,ha,hk⟩) hf
  .exact .inl hn
  .exact .inr ⟨hm,a',_,rfl,ha,λv v' hv=>ih v (hk v v' hv) hf⟩
 |store m a v k ih=>
  rintro R s' (hn|⟨hm,a',v',k',rfl,ha,hv,hk⟩) hf
  .exact .inl hn
  .exact .inr ⟨hm,a',v',_,rfl,ha,hv,ih hk hf⟩
 |new o k ih=>
  rintro R s' (hn|⟨o',k',rfl,ho,hk⟩) hf
  .exact .inl hn
  .exact .inr ⟨o',_,rfl,ho,λn n' fQ=>ih n (hk n n' fQ) λR' hR a b h=>hf R' ((xW.add fQ).trans hR) a b h⟩
 |shape r k ih=>
  rintro R s' (hn|⟨r',k',rfl,hr,hk⟩) hf
  .exact .inl hn
  .exact .inr ⟨r',_,rfl,hr,λx=>ih x (hk x) hf⟩
 |freeze a n k ih=>
  rintro R s' (hn|h) hf
  .exact .inl hn
  .exact h.elim
 |frozen a k ih=>
  rintro R s' (hn|⟨r',k',rfl,hk⟩) hf
  .exact .inl hn
  .exact .inr ⟨r',_,rfl,λx x'=>ih x (hk x x') hf⟩
 |getObj r k ih=>
  rintro R s' (hn|⟨r',k',rfl,hr,hk⟩) hf
  .exact .inl hn
  .exact .inr ⟨r',_,rfl,hr,λo o' ho=>ih o (hk o o' ho) hf⟩
 |setObj r o k ih=>
  rintro R s' (hn|⟨r',o',k',rfl,hr,ho,hk⟩) hf
  .exact .inl hn
  .exact .inr ⟨r',o',_,rfl,hr,ho,ih hk hf⟩
 |choose q k ih=>
  rintro R s' (hn|⟨k',rfl,hk⟩) hf
  .exact .inl hn
  .exact .inr ⟨_,rfl,λn=>ih n (hk n) hf⟩
 |sys c k ih=>
  rintro R s' (hn|h) hf
  .exact .inl hn
  .exact h.elim
 |program k ih=>
  rintro R s' (hn|⟨k',rfl,hk⟩) hf
  .exact .inl hn
  .exact .inr ⟨_,rfl,ih P.g hk hf⟩
 |mark m k ih=>
  rintro R s' (hn|⟨rfl,k',rfl,hk⟩) hf
  .exact .inl hn
  .exact .inr ⟨rfl,_,rfl,ih hk hf⟩
 |halt h=>
  rintro R s' (hn|hx) _
  .exact .inl hn
  .exact hx.elim
end
structure cV (S:aP->Prop)(K R:Pr)(G:Gp)(St:Nat->Prop)(w W:aE):Prop where
 inj:∀a b c,R.or K a b->R.or K a c->b=c
 inj':∀a b c,R.or K a c->R.or K b c->a=b
 lt:∀a b,R.or K a b->a<w.heap.size/\b<W.heap.size
 low:∀a b,R a b->(a<G.n↔b<G.n)/\(a<G.n->a=b)
 gle:G.n<=w.heap.size/\G.n<=W.heap.size
 cont:∀a b,R a b->∃o o',w.heap[a]? =some o/\W.heap[b]? =some o'/\oO S K R o o'
 rest:∀a b,K a b->(∀c,¬R a c)->w.heap[a]? =some oY
 st:∀a,St a->(∃b,R a b)/\∃c T hi,w.heap[a]? =some (.cells c T (0,hi))/\c.size<=hi
 np:Br w
 tb:∀g,G.tab g=true->R g g
def Tp (w W:aE):Prop:=∀n q,w.tape (w.drawn+n) q=W.tape (W.drawn+n) q
def Ge (e:Event):Option Nat:=match e.loc with| .cell a=>some a.block| .obj r=>some r|_=>none
def Hf (R:Pr)(St:Nat->Prop)(e:Event):Prop:=
 e=⟨.mark .noRoom,false,true⟩\/∃b a,Ge e=some b/\R a b/\(e.write=true->¬St a)
variable {St:Nat->Prop}
def Hf.mono (h:R.le R'){e:Event}(x:Hf R St e):Hf R' St e:=by
 rcases x with x|⟨b,a,h1,h2,h3⟩
 .exact .inl x
 .exact .inr ⟨b,a,h1,h _ _ h2,h3⟩
structure nA (S:aP->Prop)(K R:Pr)(G:Gp)(St:Nat->Prop)(w W:aE)(R':Pr)(w' W':aE):Prop where
 le:R.le R'
 old:∀a b,R a b->a<w.heap.size/\b<W.heap.size
 rel:cV S K R' G St w' W'
 tape:w'.tape=w.tape/\W'.tape=W.tape
 drawn:∃d,w'.drawn=w.drawn+d/\W'.drawn=W.drawn+d
 os:w'.os=w.os/\W'.os=W.os
 ou:w'.output=w.output/\W'.output=W.output
 size:w.heap.size<=w'.heap.size/\W.heap.size<=W'.heap.size
 new:∀a b,R' a b->R a b\/(w.heap.size<=a/\W.heap.size<=b)
 full:∀b,W.heap.size<=b->b<W'.heap.size->∃a,R' a b/\w.heap.size<=a
 keep:∀b,b<W.heap.size->(∀a,R a b->St a)->W'.heap[b]? =W.heap[b]?
 still:∀a,St a->w'.heap[a]? =w.heap[a]?
 keepG:∀a,a<w.heap.size->(∀b,¬R a b)->w'.heap[a]? =w.heap[a]?
section
variable {P:dM}{S:aP->Prop}{K R R' Pw:Pr}{G:Gp}{St:Nat->Prop}{w W w' W' Ff zut:aE}
def cV.ltR (h:cV S K R G St w W):∀a b,R a b->a<w.heap.size/\b<W.heap.size:=λa b x=>h.lt a b (.inl x)
def nA.refl (h:cV S K R G St w W):nA S K R G St w W R w W:=
 ⟨.refl R,h.ltR,h,⟨rfl,rfl⟩,⟨0,rfl,rfl⟩,⟨rfl,rfl⟩,⟨rfl,rfl⟩,⟨aX _,aX _⟩,λ_ _ h=>.inl h,λb h1 h2=>absurd h2 aC,λ_ _ _=>rfl,λ_ _=>rfl,λ_ _ _=>rfl⟩
def nA.trans (h:nA S K R G St w W R' w' W')(h':nA S K R' G St w' W' Pw Ff zut):nA S K R G St w W Pw Ff zut:=by
 obtain⟨d,d1,d2⟩:=h.drawn;obtain⟨e,e1,e2⟩:=h'.drawn;have s1:=h.size;have s2:=h'.size;refine⟨h.le.trans h'.le,h.old,h'.rel,⟨h'.tape.1.trans h.tape.1,h'.tape.2.trans h.tape.2⟩,⟨d+e,aC,aC⟩,⟨h'.os.1.trans h.os.1,h'.os.2.trans h.os.2⟩,⟨h'.ou.1.trans h.ou.1,h'.ou.2.trans h.ou.2⟩,⟨aC,aC⟩,?_,?_,?_,?_,?_⟩
 .intro a b x
  rcases h'.new a b x with x|⟨x,y⟩
  .exact h.new a b x
  .exact .inr ⟨aC,aC⟩
 .intro b x y
  rcases nC b W'.heap.size with z|z
  .obtain⟨a,r,g⟩:=h.full b x z
   exact⟨a,h'.le a b r,g⟩
  .obtain⟨a,r,g⟩:=h'.full b z y
   exact⟨a,r,aC⟩
 .intro b x hk
  refine(h'.keep b aC λa r=>?_).trans (h.keep b x hk);rcases h.new a b r with r'|⟨_,r'⟩
  .exact hk a r'
  .omega
 .intro a x;exact(h'.still a x).trans (h.still a x)
 .intro a x y
  refine(h'.keepG a aC λb r=>?_).trans (h.keepG a x y);rcases h.new a b r with r'|⟨r',_⟩
  .exact y b r'
  .omega
end
section
variable {P:dM}{S:aP->Prop}{K R R':Pr}{G:Gp}{St:Nat->Prop}{w W w' W':aE}
def zri:(Mode.plain==Mode.atomic)=false:=rfl
variable {o:tH}
def za4 {w:aE}{a:Nat}(h:w.heap[a]? =some o):a<w.heap.size:=(dP.1 h).1
variable {o':tH}
def oO.live {S:aP->Prop}{K R:Pr}(h:oO S K R o o'):∀c e,o≠ .pending c e:=by cases h<;>simp
def Br.set {w:aE}(h:Br w){a:Nat}(ho:∀c e,o≠ .pending c e):Br {w with heap:=w.heap.setIfInBounds a o}:=by
 intro b c e;by_cases hb:a=b
 .subst hb
  rcases nC a w.heap.size with hl|hl
  .simp only[Ki hl,ne_eq,gA];exact ho c e
  .rw[F7 (by simpa using hl)];simp
 .simp only[jV hb];exact h b c e
def Br.push {w:aE}(h:Br w)(ho:∀c e,o≠ .pending c e):Br {w with heap:=w.heap.push o}:=by
 intro b c e;simp only[Vr];split
 .simp only[ne_eq,gA];exact ho c e
 .exact h b c e
def nA.upd (h:cV S K R G St w W){a b:Nat}(r:R a b)(ns:¬St a)(ho:oO S K R o o'):
 nA S K R G St w W R {w with heap:=w.heap.setIfInBounds a o} {W with heap:=W.heap.setIfInBounds b o'}:=by
 obtain⟨l1,l2⟩:=h.ltR a b r;refine⟨.refl R,h.ltR,⟨h.inj,h.inj',λx y z=>by simpa using h.lt x y z,h.low,by simpa using h.gle,λx y z=>?_,λx y' hx nf=>?_,λx sx=>?_,Br.set h.np ho.live,h.tb⟩,⟨rfl,rfl⟩,⟨0,rfl,rfl⟩,⟨rfl,rfl⟩,⟨rfl,rfl⟩,⟨aO,aO⟩,λ_ _ h=>.inl h,λx h1 h2=>absurd h2 q8,λx hx hk=>?_,λx sx=>?_,λx hx nf=>?_⟩
 .by_cases e:x=a
  .subst e
   have:=h.inj x y b (.inl z) (.inl r);subst this;exact⟨o,o',by simp[l1],by simp[l2],ho⟩
  .have e':y≠b:=λe'=>e (h.inj' x a b (.inl (e'▸z)) (.inl r))
   obtain⟨p,q,h1,h2,h3⟩:=h.cont x y z;exact⟨p,q,by simp[jV (Ne.symm e),h1],by simp[jV (Ne.symm e'),h2],h3⟩
 .have e:x≠a:=λe=>nf b (e▸r)
  have:=h.rest x _ hx nf;simp[jV (Ne.symm e),this]
 .have e:x≠a:=λe=>ns (e▸sx)
  obtain⟨fx,c,T,hi,h1,h2⟩:=h.st x sx;exact⟨fx,c,T,hi,by simp[jV (Ne.symm e),h1],h2⟩
 .have e:b≠x:=λe=>ns (hk a (e▸r))
  simp[jV e]
 .have e:x≠a:=λe=>ns (e▸sx)
  simp[jV (Ne.symm e)]
 .have e:x≠a:=λe=>nf b (e▸r)
  simp[jV (Ne.symm e)]
def Z0 {w:aE}{b o:Nat}{c:Array aF}{T:aM}{fz:Nat×Nat}(h:w.heap[b]? =some (.cells c T fz))(v:aF):
 w.setCell ⟨b,o,none⟩ v={w with heap:=w.heap.setIfInBounds b (.cells (c.setIfInBounds o v) T fz)}:=by
 have hl:=za4 h;have hb:w.heap[b]=.cells c T fz:=by simpa[mE hl] using h
 unfold zid;congr 1;apply Array.ext_getElem?;intro i;rw[zh8];by_cases e:b=i
 .subst e;simp[hl,hb]
 .rw[if_neg e,jV e]
def nA.push (h:cV S K R G St w W)(ho:oO S K R o o'):
 nA S K R G St w W (R.add w.heap.size W.heap.size) {w with heap:=w.heap.push o} {W with heap:=W.heap.push o'}:=by
 have l1:∀a b,R.or K a b->a≠w.heap.size:=λa b x e=>by have:=(h.lt a b x).1;omega
 have l2:∀a b,R.or K a b->b≠W.heap.size:=λa b x e=>by have:=(h.lt a b x).2;omega
 have g1:=h.gle;refine⟨Pr.le_add _ _ _,h.ltR,⟨?_,?_,?_,?_,q8,?_,?_,?_,Br.push h.np ho.live,λg hg=>.inl (h.tb g hg)⟩,⟨rfl,rfl⟩,⟨0,rfl,rfl⟩,⟨rfl,rfl⟩,⟨rfl,rfl⟩,⟨aO,aO⟩,?_,?_,?_,?_,?_⟩
 .rintro a b c ((x|⟨rfl,rfl⟩)|x) ((y|⟨e,rfl⟩)|y)
  .exact h.inj a b c (.inl x) (.inl y)
  .exact absurd e (l1 _ _ (.inl x))
  .exact h.inj a b c (.inl x) (.inr y)
  .exact absurd rfl (l1 _ _ (.inl y))
  .rfl
  .exact absurd rfl (l1 _ _ (.inr y))
  .exact h.inj a b c (.inr x) (.inl y)
  .exact absurd e (l1 _ _ (.inr x))
  .exact h.inj a b c (.inr x) (.inr y)
 .rintro a b c ((x|⟨rfl,rfl⟩)|x) ((y|⟨rfl,e⟩)|y)
  .exact h.inj' a b c (.inl x) (.inl y)
  .exact absurd e (l2 _ _ (.inl x))
  .exact h.inj' a b c (.inl x) (.inr y)
  .exact absurd rfl (l2 _ _ (.inl y))
  .rfl
  .exact absurd rfl (l2 _ _ (.inr y))
  .exact h.inj' a b c (.inr x) (.inl y)
  .exact absurd e (l2 _ _ (.inr x))
  .exact h.inj' a b c (.inr x) (.inr y)
 .rintro a b ((x|⟨rfl,rfl⟩)|x)
  .have:=h.lt a b (.inl x);simp;omega
  .simp
  .have:=h.lt a b (.inr x);simp;omega
 .rintro a b (x|⟨rfl,rfl⟩)
  .exact h.low a b x
  .exact⟨aC,λz=>by omega⟩
 .rintro a b (x|⟨rfl,rfl⟩)
  .obtain⟨p,q,h1,h2,h3⟩:=h.cont a b x
   exact⟨p,q,by rw[Su (za4 h1)];rw[<-h1,mE],by rw[Su (za4 h2)];rw[<-h2,mE],h3.mono (Pr.le_add _ _ _)⟩
  .exact⟨o,o',aO,aO,ho.mono (Pr.le_add _ _ _)⟩
 .intro a b' ha nf
  have e:a≠w.heap.size:=λe=>nf _ (.inr ⟨e,rfl⟩);have hl:=(h.lt a b' (.inr ha)).1;have:=h.rest a b' ha (λb f=>nf b (.inl f));rw[Su hl,<-this,mE]
 .intro a sa
  obtain⟨⟨b,fa⟩,c,T,hi,h1,h2⟩:=h.st a sa;exact⟨⟨b,.inl fa⟩,c,T,hi,by rw[Su (za4 h1),<-h1,mE],h2⟩
 .rintro a b (x|⟨rfl,rfl⟩)
  .exact .inl x
  .exact .inr ⟨aX _,aX _⟩
 .intro b x y
  simp only[Array.size_push] at y;obtain rfl:b=W.heap.size:=aC;exact⟨_,.inr ⟨rfl,rfl⟩,aX _⟩
 .intro b hb _
  rw[Su hb,mE]
 .intro a sa
  obtain⟨fa,c,T,hi,h1,h2⟩:=h.st a sa;rw[Su (za4 h1),mE]
 .intro a ha _
  rw[Su ha,mE]
def nA.draw (h:cV S K R G St w W):nA S K R G St w W R {w with drawn:=w.drawn+1} {W with drawn:=W.drawn+1}:=
 ⟨.refl R,h.ltR,⟨h.inj,h.inj',h.lt,h.low,h.gle,h.cont,h.rest,h.st,h.np,h.tb⟩,⟨rfl,rfl⟩,⟨1,rfl,rfl⟩,⟨rfl,rfl⟩,⟨rfl,rfl⟩,⟨aX _,aX _⟩,λ_ _ h=>.inl h,λb h1 h2=>absurd h2 q8,λ_ _ _=>rfl,λ_ _=>rfl,λ_ _ _=>rfl⟩
def Tp.step (h:Tp w W)(s:nA S K R G St w W R' w' W'):Tp w' W':=by
 obtain⟨d,d1,d2⟩:=s.drawn;intro n q;rw[s.tape.1,s.tape.2,d1,d2,X0,X0];exact h (d+n) q
end
def zT (P:dM)(S:aP->Prop)(K:Pr){α β:Type}(A:Pr->α->β->Prop)(R:Pr)(G:Gp)(St:Nat->Prop)(w W:aE)(s':cU β)(x:α)(w':aE):Prop:=
 ∃R' x' W' ev,s'.run P.c W=.ok x' W'/\A R' x x'/\nA S K R G St w W R' w' W'/\(∀es,s'.events P.c W es=es++ev)/\∀e∈ev,Hf R' St e
variable {S:aP->Prop}{W w':aE}{e₁:Array Event}
def zT.after {A:Pr->α->β->Prop}{zh5:Pr}{G:Gp}{aI aV:aE}{s' s₁':cU β}{x:α}
 (vV:nA S K R G St w W zh5 aI aV) (hr:s'.run P.c W=s₁'.run P.c aV) (he:∀es,s'.events P.c W es=s₁'.events P.c aV (es++e₁)) (bU:∀e∈e₁,Hf zh5 St e) (h:zT P S K A zh5 G St aI aV s₁' x w'):zT P S K A R G St w W s' x w':=by
 obtain⟨R',x',W',ev,a,b,c,d,e⟩:=h;refine⟨R',x',W',e₁++ev,hr.trans a,b,vV.trans c,λes=>by rw[he,d,Array.append_assoc],λy hy=>?_⟩;rcases Array.mem_append.1 hy with hy|hy
 .exact(bU y hy).mono c.le
 .exact e y hy
def oO.shape {G:Gp}(h:cV S K R G St w W){r r':Nat}(x:R r r'):W.shape? r'=w.shape? r:=by
 obtain⟨o,o',h1,h2,h3⟩:=h.cont r r' x;unfold zcq;rw[h1,h2]
 cases h3 with
 |cells hc _=>simp[hc.1]
 |_=>rfl
def cV.orR {G:Gp}(h:cV S K R G St w W){a b:Nat}(x:R.or K a b):R a b\/w.heap[a]? =some oY:=by
 by_cases e:∃c,R a c
 .obtain⟨c,e⟩:=e
  exact .inl (h.inj a b c x (.inl e)▸e)
 .exact .inr (h.rest a b (x.resolve_left λy=>e ⟨b,y⟩) (λc y=>e ⟨c,y⟩))
def aG.run {A:Pr->α->β->Prop}{G:Gp}(hG:G=P.gp){x:α}(s:cU α):
 ∀{R:Pr} {w W:aE} {s':cU β},aG P S K A s R s'->cV S K R G St w W->Tp w W->s.run P.g w=.ok x w'->zT P S K A R G St w W s' x w':=by
 induction s with
 |pure a=>
  rintro R w W s' (hn|⟨b,rfl,h⟩) hw ht hr
  .exact absurd hr (hn.no hw.np _ _)
  simp only[bD,Result.ok.injEq] at hr;obtain⟨rfl,rfl⟩:=hr;exact⟨R,b,W,#[],rfl,h,.refl hw,λes=>by unfold vY;rw[zO];simp,λe he=>by simp at he⟩
 |load m a k ih=>
  rintro R w W s' (hn|⟨rfl,a',k',rfl,ha,hk⟩) hw ht hr
  .exact absurd hr (hn.no hw.np _ _)
  obtain⟨qK⟩:=ha;rename_i b b' o sp
  .obtain⟨ob,xM,h1,h2,h3⟩:=hw.cont b b' qK
   cases h3 with
   |cells hc hz=>
    rename_i c c' T fz Iz
    cases sp with
    |some sp=>simp[bD,lI,h1,yV,rD] at hr
    |none=>
     cases hv:c[o]? with
     |none=>simp[bD,lI,h1,yV,rD,hv] at hr
     |some v=>
      obtain⟨v',Ke,qS⟩:=hc.get hv;have e1:w.cell? ⟨b,o,none⟩=some v:=by simp[lI,h1,hv]
      have e2:W.cell? ⟨b',o,none⟩=some v':=by simp[lI,h2,Ke]
      rw[bD,e1] at hr;refine zT.after (e₁:=#[⟨.cell ⟨b',o,none⟩,false,false⟩]) (.refl hw) (by rw[bD,e2]) (λes=>by unfold vY;rw[zO,e2];simp[zri]) ?_ (ih v (hk v v' qS) hw ht hr);intro e he;simp at he;subst he;exact .inr ⟨b',b,rfl,qK,aO⟩
   |map x=>simp[bD,lI,h1,yV,rD] at hr
   |chan x=>simp[bD,lI,h1,yV,rD] at hr
   |stringIter x y=>simp[bD,lI,h1,yV,rD] at hr
   |mapIter x=>simp[bD,lI,h1,yV,rD] at hr
   |number x=>simp[bD,lI,h1,yV,rD] at hr
 |store m a v k ih=>
  rintro R w W s' (hn|⟨rfl,a',v',k',rfl,ha,hv,hk⟩) hw ht hr
  .exact absurd hr (hn.no hw.np _ _)
  obtain⟨qK⟩:=ha;rename_i b b' o sp;have Ms:∀cs,v≠ .agg cs:=by rintro cs rfl;simp[bD] at hr
  have Bp:∀cs,v≠ .tuple cs:=by rintro cs rfl;simp[bD] at hr
  have zsu:∀cs,v'≠ .agg cs:=by rintro cs rfl;cases hv<;>first|exact Ms _ rfl|exact Bp _ rfl|(rename_i hh;exact hh.elim)
  have zxf:∀cs,v'≠ .tuple cs:=by rintro cs rfl;cases hv<;>first|exact Bp _ rfl|(rename_i hh;exact hh.elim)
  rw[bD] at hr
  rotate_left
  .exact λcs=>Ms cs
  .exact λcs=>Bp cs
  .obtain⟨ob,xM,h1,h2,h3⟩:=hw.cont b b' qK
   cases h3 with
   |cells hc hz=>
    rename_i c c' T fz Iz
    cases sp with
    |some sp=>simp[lI,h1,Dh,rD] at hr
    |none=>
     cases fK:c[o]? with
     |none=>simp[lI,h1,Dh,rD,fK] at hr
     |some v0=>
      obtain⟨zJP,zfX,_⟩:=hc.get fK;have e1:w.cell? ⟨b,o,none⟩=some v0:=by simp[lI,h1,fK]
      have e2:W.cell? ⟨b',o,none⟩=some zJP:=by simp[lI,h2,zfX]
      rw[e1] at hr;simp only at hr
      cases mY:w.frozen? ⟨b,o,none⟩ with
      |true=>rw[mY] at hr;simp at hr
      |false=>
       rw[mY] at hr;simp only[jE,if_false] at hr;have Zq:¬Lr fz o:=by
        intro⟨z1,z2⟩;simp[Ri,h1,z1,z2] at mY
       have zI:¬St b:=by
        intro hs;obtain⟨_,c2,T2,hi,g1,g2⟩:=hw.st b hs;rw[h1] at g1;injection g1 with g1;injection g1 with g1 _ g3;subst g1 g3;exact Zq ⟨jT _,lD (dP.1 fK).1 g2⟩
       have zpw:W.frozen? ⟨b',o,none⟩=false:=by
        simp only[Ri,h2]
        cases hq:(decide (Iz.1<=o)&&decide (o<Iz.2)) with
        |false=>rfl
        |true=>simp at hq;exact absurd (hz o hq) Zq
       rw[Z0 h1] at hr;refine zT.after (e₁:=#[⟨.cell ⟨b',o,none⟩,true,false⟩]) (nA.upd hw qK zI (.cells (hc.set o hv) hz)) (s₁':=k') ?_ ?_ ?_ (ih hk (nA.upd hw qK zI (.cells (hc.set o hv) hz)).rel (ht.step (nA.upd hw qK zI (.cells (hc.set o hv) hz))) hr)
       .rw[bD]
        rotate_left
        .exact λcs=>zsu cs
        .exact λcs=>zxf cs
        rw[e2];simp only[zpw,jE,if_false];rw[Z0 h2]
       .intro es
        unfold vY;rw[zO]
        rotate_left
        .exact λcs=>zsu cs
        .exact λcs=>zxf cs
        rw[e2];simp only[zpw,jE,if_false];rw[Z0 h2];simp[zri]
       .intro e he
        simp at he;subst he;exact .inr ⟨b',b,rfl,qK,λ_=>zI⟩
   |map x=>simp[lI,h1,Dh,rD] at hr
   |chan x=>simp[lI,h1,Dh,rD] at hr
   |stringIter x y=>simp[lI,h1,Dh,rD] at hr
   |mapIter x=>simp[lI,h1,Dh,rD] at hr
   |number x=>simp[lI,h1,Dh,rD] at hr
 |new o k ih=>
  rintro R w W s' (hn|⟨o',k',rfl,ho,hk⟩) hw ht hr
  .exact absurd hr (hn.no hw.np _ _)
  rw[bD] at hr;exact zT.after (e₁:=#[]) (nA.push hw ho) Mo (λes=>by unfold vY;rw[zO];simp) (λe he=>by simp at he) (ih _ (hk _ _ ⟨λb hb=>absurd (hw.lt _ _ hb).1 (Cr _),λa ha=>absurd (hw.lt _ _ ha).2 (Cr _),by subst hG;exact hw.gle⟩) (nA.push hw ho).rel (ht.step (nA.push hw ho)) hr)
 |shape r k ih=>
  rintro R w W s' (hn|⟨r',k',rfl,qM,hk⟩) hw ht hr
  .exact absurd hr (hn.no hw.np _ _)
  rw[bD] at hr;exact zT.after (e₁:=#[]) (.refl hw) (by rw[bD,oO.shape hw qM]) (λes=>by unfold vY;rw[zO,oO.shape hw qM];simp) (λe he=>by simp at he) (ih _ (hk _) hw ht hr)
 |freeze a n k ih=>
  rintro R w W s' (hn|h) hw ht hr
  .exact absurd hr (hn.no hw.np _ _)
  .exact h.elim
 |frozen a k ih=>
  rintro R w W s' (hn|⟨r',k',rfl,hk⟩) hw ht hr
  .exact absurd hr (hn.no hw.np _ _)
  rw[bD] at hr;exact zT.after (e₁:=#[]) (.refl hw) Mo (λes=>by unfold vY;rw[zO];simp) (λe he=>by simp at he) (ih _ (hk _ _) hw ht hr)
 |getObj r k ih=>
  rintro R w W s' (hn|⟨r',k',rfl,qM,hk⟩) hw ht hr
  .exact absurd hr (hn.no hw.np _ _)
  rw[bD] at hr
  .replace qM:R r r':=by
    rcases hw.orR qM with x|x
    .exact x
    .rw[x] at hr;simp[oY] at hr
   obtain⟨ob,xM,h1,h2,h3⟩:=hw.cont r r' qM;rw[h1] at hr;have go:(∀c T fz,ob≠ .cells c T fz)->(∀c T fz,xM≠ .cells c T fz)->zT P S K A R G St w W (.getObj r' k') x w':=by
    intro n1 n2;refine zT.after (e₁:=#[⟨.obj r',false,xM.isChan⟩]) (.refl hw) (s₁':=k' xM) ?_ ?_ ?_ (ih ob (hk _ _ h3) hw ht ?_)
    .rw[bD,h2];cases xM<;>first|rfl|exact absurd rfl (n2 _ _ _)
    .intro es;unfold vY;rw[zO,h2];cases xM<;>first|(simp;done)|exact absurd rfl (n2 _ _ _)
    .intro e he
     simp at he;subst he;exact .inr ⟨r',r,rfl,qM,aO⟩
    .cases ob<;>first|exact hr|exact absurd rfl (n1 _ _ _)
   cases h3 with
   |cells hc hz=>simp at hr
   |map x=>exact go aO aO
   |chan x=>exact go aO aO
   |stringIter x y=>exact go aO aO
   |mapIter x=>exact go aO aO
   |number x=>exact go aO aO
 |setObj r o k ih=>
  rintro R w W s' (hn|⟨r',o',k',rfl,qM,ho,hk⟩) hw ht hr
  .exact absurd hr (hn.no hw.np _ _)
  rw[bD] at hr
  .replace qM:R r r':=by
    rcases hw.orR qM with x|x
    .exact x
    .rw[x] at hr;simp[oY] at hr
   obtain⟨ob,xM,h1,h2,h3⟩:=hw.cont r r' qM;rw[h1] at hr;have go:(∀c T fz,ob≠ .cells c T fz)->(∀c T fz,xM≠ .cells c T fz)->zT P S K A R G St w W (.setObj r' o' k') x w':=by
    intro n1 n2;have zI:¬St r:=by
     intro hs;obtain⟨_,c2,T2,hi,g1,g2⟩:=hw.st r hs;rw[h1] at g1;injection g1 with g1;exact n1 _ _ _ g1
    refine zT.after (e₁:=#[⟨.obj r',true,o'.isChan⟩]) (nA.upd hw qM zI ho) (s₁':=k') ?_ ?_ ?_ (ih hk (nA.upd hw qM zI ho).rel (ht.step (nA.upd hw qM zI ho)) ?_)
    .rw[bD,h2];cases xM<;>first|rfl|exact absurd rfl (n2 _ _ _)
    .intro es;unfold vY;rw[zO,h2];cases xM<;>first|(simp;done)|exact absurd rfl (n2 _ _ _)
    .intro e he
     simp at he;subst he;exact .inr ⟨r',r,rfl,qM,λ_=>zI⟩
    .cases ob<;>first|exact hr|exact absurd rfl (n1 _ _ _)
   cases h3 with
   |cells hc hz=>simp at hr
   |map x=>exact go aO aO
   |chan x=>exact go aO aO
   |stringIter x y=>exact go aO aO
   |mapIter x=>exact go aO aO
   |number x=>exact go aO aO
 |choose q k ih=>
  rintro R w W s' (hn|⟨k',rfl,hk⟩) hw ht hr
  .exact absurd hr (hn.no hw.np _ _)
  rw[bD] at hr
  cases hq:q.forced with
  |true=>
   rw[hq] at hr;simp only[if_true] at hr;exact zT.after (e₁:=#[]) (.refl hw) (by rw[bD,hq];simp) (λes=>by unfold vY;rw[zO,hq];simp) (λe he=>by simp at he) (ih 0 (hk 0) hw ht hr)
  |false=>
   rw[hq] at hr;simp only[jE,if_false] at hr;have ea:w.tape w.drawn q=W.tape W.drawn q:=ht 0 q;rw[ea] at hr;exact zT.after (e₁:=#[]) (nA.draw hw) (by rw[bD,hq];simp) (λes=>by unfold vY;rw[zO,hq];simp) (λe he=>by simp at he) (ih _ (hk _) (nA.draw hw).rel (ht.step (nA.draw hw)) hr)
 |sys c k ih=>
  rintro R w W s' (hn|h) hw ht hr
  .exact absurd hr (hn.no hw.np _ _)
  .exact h.elim
 |program k ih=>
  rintro R w W s' (hn|⟨k',rfl,hk⟩) hw ht hr
  .exact absurd hr (hn.no hw.np _ _)
  rw[bD] at hr;exact zT.after (e₁:=#[]) (.refl hw) Mo (λes=>by unfold vY;rw[zO];simp) (λe he=>by simp at he) (ih _ hk hw ht hr)
 |mark m k ih=>
  rintro R w W s' (hn|⟨rfl,k',rfl,hk⟩) hw ht hr
  .exact absurd hr (hn.no hw.np _ _)
  .rw[bD] at hr
   exact zT.after (e₁:=#[⟨.mark .noRoom,false,true⟩]) (.refl hw) Mo (λes=>by unfold vY;rw[zO];simp) (λe he=>by simp at he;exact .inl he) (ih hk hw ht hr)
 |halt h=>rintro R w W s' _ hw ht hr;simp[bD] at hr
section
variable {P:dM}{S:aP->Prop}{K:Pr}{α β γ δ:Type}{R:Pr}
abbrev lR {α:Type}:Pr->α->α->Prop:=λ_ a b=>a=b
abbrev VA (S:aP->Prop)(K:Pr):Pr->aF->aF->Prop:=λR v v'=>VR S K R v v'
def aG.bnd {A:Pr->α->β->Prop}{B:Pr->γ->δ->Prop}{s:cU α}{s':cU β}{f:α->cU γ}{f':β->cU δ}(h:aG P S K A s R s')(hf:∀R',xW P K R R'->∀a b,A R' a b->aG P S K B (f a) R' (f' b)):
 aG P S K B (s>>=f) R (s'>>=f'):=aG.bind h hf
def aG.ret {A:Pr->α->β->Prop}{a:α}{b:β}(h:A R a b):aG P S K A (kN a:cU α) R (kN b:cU β):=aG.pure h
def bN {Un:String}:fC P (stuck Un:cU α):=fC.halt trivial
variable {u:Unsupported}
def lJ (hu:Xd (.unsupported u):=by trivial):fC P (unsupported u:cU α):=fC.halt hu
variable {v:aF}
def zfS :fC P (goPanic v:cU α):=fC.halt trivial
def fC.bnd {s:cU α}(h:fC P s)(f:α->cU β):fC P (s>>=f):=h.bind f
def nD (P:dM)(s:cU α):Prop:=∀w,Br w->(∃a w',s.run P.g w=.ok a w'/\Br w')\/∃h w',s.run P.g w=.halt h w'/\Xd h
def nD.never {s:cU α}(h:fC P s):nD P s:=λw hw=>.inr (h w hw)
def nD.ret (a:α):nD P (kN a:cU α):=λw hw=>.inl ⟨a,w,rfl,hw⟩
def nD.bnd {s:cU α}{f:α->cU β}(h:nD P s)(hf:∀a,nD P (f a)):nD P (s>>=f):=by
 intro w hw;have e:(s>>=f).run P.g w=_:=sE P.g s f w;rcases h w hw with⟨a,w',h1,h2⟩|⟨y,w',h1,h2⟩
 .rcases hf a w' h2 with⟨b,w2,h3,h4⟩|⟨y,w2,h3,h4⟩
  .exact .inl ⟨b,w2,by rw[e,h1];exact h3,h4⟩
  .exact .inr ⟨y,w2,by rw[e,h1];exact h3,h4⟩
 .exact .inr ⟨y,w',by rw[e,h1];rfl,h2⟩
def zmM:nD P program:=λw hw=>.inl ⟨P.g,w,rfl,hw⟩
def zig (q:Question):nD P (choose q):=λw hw=>by
 unfold choose bD;split
 .exact .inl ⟨0,w,rfl,hw⟩
 .exact .inl ⟨_,_,rfl,hw⟩
def zzJ (r:Nat):nD P (shape r):=λw hw=>.inl ⟨_,w,rfl,hw⟩
variable {o:tH}
def zB3 (ho:∀c e,o≠ .pending c e):nD P (newObj o):=λw hw=>.inl ⟨_,_,rfl,Br.push hw ho⟩
def zBq (t:aM):nD P (underlying t):=by
 unfold underlying;refine zmM.bnd λp=>?_;split
 .exact nD.ret _
 .exact .never bN
def zIZ (t:aM)(v:aF):nD P (newVar t v):=by
 unfold newVar newRow;exact(zB3 aO).bnd λ_=>nD.ret _
def zFc (t:aM):nD P (elemOf t):=by
 unfold elemOf;refine(zBq t).bnd λd=>?_;split
 .exact nD.ret _
 .exact .never bN
def zHQ (a:bL):nD P (frozen a):=λw hw=>.inl ⟨_,w,rfl,hw⟩
def zzh (m:Mark):nD P (mark m):=λw hw=>.inl ⟨_,w,rfl,hw⟩
def zsm (a:bL)(n:Nat):nD P (ziM a n):=by
 unfold ziM;refine(zzJ _).bnd λx=>?_;split<;>exact nD.ret _
def zAo (size zcp n:Nat)(base:Option bL)(x:aF):nD P (zv9 size zcp n base x):=by
 unfold zv9;have tail:∀b:Bool,nD P (match x with
  | .slice (some b) _ _=>do pure (!(<-ziM b (n*size))||base.any (·.block==b.block))
  |_=>pure false:cU Bool):=λ_=>by
  split
  .exact(zsm _ _).bnd λ_=>nD.ret _
  .exact nD.ret _
 cases base with
 |none=>
  refine(nD.ret true).bnd λthere=>?_;cases there
  .exact nD.ret _
  .exact tail true
 |some a=>
  refine(zsm _ _).bnd λh1=>(zHQ _).bnd λh2=>?_;refine(nD.ret _).bnd λthere=>?_;cases there
  .exact nD.ret _
  .exact tail true
def fC.then {s:cU α}{f:α->cU β}(hs:nD P s)(h:∀a,fC P (f a)):fC P (s>>=f):=by
 intro w hw;have e:(s>>=f).run P.g w=_:=sE P.g s f w;rcases hs w hw with⟨a,w',h1,h2⟩|⟨y,w',h1,h2⟩
 .obtain⟨y,w2,h3,h4⟩:=h a w' h2
  exact⟨y,w2,by rw[e,h1];exact h3,h4⟩
 .exact⟨y,w',by rw[e,h1];rfl,h2⟩
variable {e:RuntimeError}
def vE :fC P (runtimePanic e:cU α):=by
 unfold runtimePanic;refine fC.then zmM λp=>?_;cases e<;>first|exact zfS|(refine fC.then (zFc _) λ_=>?_;refine fC.then (zIZ _ _) λ_=>?_;exact zfS)
def Yt {k:Ec}{x y:Int}{c:zhI}:fC P (boundsPanic k x y c:cU α):=by
 unfold boundsPanic;simp only;split
 .refine fC.then ?_ λ_=>vE
  exact(zig _).bnd λ_=>nD.ret _
 .exact fC.then (nD.ret _) λ_=>vE
def Rb:aG P S K (λ_ a b=>a=P.g/\b=P.c) program R program:=.inr ⟨_,rfl,.inr ⟨P.c,rfl,rfl,rfl⟩⟩
def zgz (q:Question):aG P S K lR (choose q) R (choose q):=.inr ⟨_,rfl,λn=>.inr ⟨n,rfl,rfl⟩⟩
def l9 (t:aM):aG P S K (λ_ a b=>a=b/\P.underlying t=some a) (underlying t) R (underlying t):=by
 unfold underlying;refine aG.bnd Rb ?_;rintro R' _ a b ⟨ha,hb⟩;rw[ha,hb,P.underlying_g]
 cases h:P.c.underlying t with
 |some d=>exact aG.ret ⟨rfl,h⟩
 |none=>exact .inl bN
def En (t:aM):aG P S K (λ_ a b=>a=b/\P.info? t=some a) (typeInfo t) R (typeInfo t):=by
 unfold typeInfo;refine aG.bnd Rb ?_;rintro R' _ a b ⟨ha,hb⟩;rw[ha,hb,P.info_g]
 cases h:P.c.info? t with
 |some d=>exact aG.ret ⟨rfl,h⟩
 |none=>exact .inl bN
def H6 (P:dM)(S:aP->Prop):Prop:=∀(K R:Pr) t i z,P.info? t=some i->i.zero=some z->VR S K R z z
def Oj (hz:H6 P S)(t:aM):aG P S K (VA S K) (zeroValue t) R (zeroValue t):=by
 unfold zeroValue;refine aG.bnd (En t) ?_;rintro R' _ a b ⟨rfl,h⟩
 cases h2:a.zero with
 |some z=>exact aG.ret (hz K R' t a z h h2)
 |none=>exact .inl lJ
def Ar (t:aM):aG P S K lR (sizeOf t) R (sizeOf t):=by
 unfold sizeOf;refine aG.bnd (En t) ?_;rintro R' _ a b ⟨rfl,h⟩;exact aG.ret rfl
def zx9 (t:aM):aG P S K lR (isAgg t) R (isAgg t):=by
 unfold isAgg;refine aG.bnd (l9 t) ?_;rintro R' _ a b ⟨rfl,h⟩;cases a<;>exact aG.ret rfl
variable {v':aF}
def zd6 (h:VR S K R v v'):aG P S K lR (asIntOf v) R (asIntOf v'):=by
 cases h with
 |int k n=>exact aG.ret rfl
 |pointer x=>cases x<;>first|exact .inl lJ|exact .inl bN
 |_=>exact .inl bN
def Xx (h:VR S K R v v'):aG P S K lR (asInt v) R (asInt v'):=by
 unfold asInt;refine aG.bnd (zd6 h) ?_;rintro R' _ a b rfl;exact aG.ret rfl
def zC0 (h:VR S K R v v'):aG P S K lR (asBool v) R (asBool v'):=by
 cases h with
 |bool b=>exact aG.ret rfl
 |_=>exact .inl bN
def zxV (h:VR S K R v v'):aG P S K (λR a b=>fX R a b) (asAddr v) R (asAddr v'):=by
 cases h with
 |pointer x=>
  cases x with
  |none=>exact .inl (by unfold asAddr;exact vE)
  |some x=>exact aG.ret x
 |_=>exact .inl bN
def zbc (h:VR S K R v v'):aG P S K (λR a b=>fX R a b) (zuD v) R (zuD v'):=by
 cases h with
 |pointer x=>
  cases x with
  |none=>exact .inl bN
  |some x=>exact aG.ret x
 |_=>exact .inl bN
variable {a a':bL}
def zye (h:fX R a a'):aG P S K (VA S K) (load a) R (load a'):=.inr ⟨rfl,a',_,rfl,h,λv v' hv=>.inr ⟨v',rfl,hv⟩⟩
def zzm (h:fX R a a')(hv:VR S K R v v'):aG P S K lR (store a v) R (store a' v'):=.inr ⟨rfl,a',v',_,rfl,h,hv,.inr ⟨(),rfl,rfl⟩⟩
variable {o':tH}
def zhj (h:oO S K R o o'):aG P S K (λR a b=>R a b) (newObj o) R (newObj o'):=.inr ⟨o',_,rfl,h,λn n' _=>.inr ⟨n',rfl,.inr ⟨rfl,rfl⟩⟩⟩
variable {r r':Nat}
def zaX (h:R r r'):aG P S K lR (shape r) R (shape r'):=.inr ⟨r',_,rfl,h,λx=>.inr ⟨x,rfl,rfl⟩⟩
def Qx (h:R r r'):aG P S K (λR o o'=>oO S K R o o') (getObj r) R (getObj r'):=.inr ⟨r',_,rfl,.inl h,λo o' ho=>.inr ⟨o',rfl,ho⟩⟩
def za3 (h:R r r')(ho:oO S K R o o'):aG P S K lR (setObj r o) R (setObj r' o'):=.inr ⟨r',o',_,rfl,.inl h,ho,.inr ⟨(),rfl,rfl⟩⟩
def zuG (h:R.or K r r'):aG P S K (λR o o'=>oO S K R o o') (getObj r) R (getObj r'):=.inr ⟨r',_,rfl,h,λo o' ho=>.inr ⟨o',rfl,ho⟩⟩
def zjH (n:Nat):aG P S K lR (askRoom n) R (askRoom n):=by
 unfold askRoom;split
 .exact .inr ⟨rfl,_,rfl,.inr ⟨(),rfl,rfl⟩⟩
 .exact aG.ret rfl
def fX.add (h:fX R a a')(n:Nat):fX R (a.add n) (a'.add n):=by
 cases h with
 |mk h=>unfold zha;split<;>exact .mk h
def wK.map {a a':Option bL}(h:wK R a a')(n:Nat):wK R (a.map (·.add n)) (a'.map (·.add n)):=by
 cases h with
 |none=>exact .none
 |some h=>exact .some (h.add n)
def zv4 :∀(n i:Nat) {R:Pr} {acc zdu:Array aF},fX R a a'->bK S K R acc zdu->aG P S K (λR x y=>bK S K R x y) (loadCellsFrom a i n acc) R (loadCellsFrom a' i n zdu)
 |0,i,R,acc,zdu,h,hc=>aG.ret hc
 |n+1,i,R,acc,zdu,h,hc=>by
  unfold loadCellsFrom;refine aG.bnd (zye (h.add i)) ?_;intro R' hR v v' hv;exact zv4 n (i+1) (h.mono hR.le) ((hc.mono hR.le).push hv)
def zhL (h:fX R a a')(n:Nat):aG P S K (λR x y=>bK S K R x y) (loadCells a n) R (loadCells a' n):=zv4 n 0 h bK.empty
def xV (S:aP->Prop)(K R:Pr)(xs bY:List aF):Prop:=xs.length=bY.length/\∀(i:Nat) (v v':aF),xs[i]? =some v->bY[i]? =some v'->VR S K R v v'
def bK.toList {xs bY:Array aF}(h:bK S K R xs bY):xV S K R xs.toList bY.toList:=⟨by simpa using h.1,λi v v' h1 h2=>h.2 i v v' Uz Sb⟩
variable {xs bY:List aF}
def xV.mono {R':Pr}(hR:R.le R')(h:xV S K R xs bY):xV S K R' xs bY:=⟨h.1,λi v v' h1 h2=>(h.2 i v v' h1 h2).mono hR⟩
def xV.cons {x x':aF}(h:xV S K R (x::xs) (x'::bY)):VR S K R x x'/\xV S K R xs bY:=
 ⟨h.2 0 x x' rfl rfl,by simpa using h.1,λi v v' h1 h2=>h.2 (i+1) v v' Uz Sb⟩
def Yx :∀(vs zgm:List aF) (i:Nat) {R:Pr},fX R a a'->xV S K R vs zgm->aG P S K lR (storeCells a vs i) R (storeCells a' zgm i)
 |[],[],i,R,h,hv=>aG.ret rfl
 |[],_::_,i,R,h,hv=>by have:=hv.1;simp at this
 |_::_,[],i,R,h,hv=>by have:=hv.1;simp at this
 |v::vs,v'::zgm,i,R,h,hv=>by
  unfold storeCells;obtain⟨h1,h2⟩:=hv.cons;refine aG.bnd (zzm (h.add i) h1) ?_;intro R' hR _ _ _;exact Yx vs zgm (i+1) (h.mono hR.le) (h2.mono hR.le)
def zqa (t:aM)(h:fX R a a'):aG P S K (VA S K) (loadVar t a) R (loadVar t a'):=by
 unfold loadVar;refine aG.bnd (zx9 t) ?_;rintro R1 h1 b _ rfl
 cases b with
 |true=>
  simp only[if_true];refine aG.bnd (Ar t) ?_;rintro R2 h2 n _ rfl;refine aG.bnd (zhL ((h.mono h1.le).mono h2.le) n) ?_;intro R3 h3 x y zDI;exact aG.ret (VR.agg' zDI)
 |false=>simpa using zye (h.mono h1.le)
def zHH (t:aM)(h:fX R a a')(hv:VR S K R v v'):aG P S K lR (storeVar t a v) R (storeVar t a' v'):=by
 unfold storeVar;refine aG.bnd (Ar t) ?_;rintro R1 h1 n _ rfl;have hc:=hv.cells;rw[<-hc.1];split
 .exact .inl (bN.bnd _)
 .exact Yx _ _ 0 (h.mono h1.le) ((hc.mono h1.le).toList)
variable {c c':Array aF}
def zc4 (e:aM)(h:bK S K R c c'):aG P S K (λR a b=>fX R a b) (newRow e c) R (newRow e c'):=by
 unfold newRow;refine aG.bnd (zhj (.cells h λo ho=>ho)) ?_;intro R1 h1 n n' hn;exact aG.ret (.mk hn)
def zwE (t:aM)(h:VR S K R v v'):aG P S K (λR a b=>fX R a b) (newVar t v) R (newVar t v'):=zc4 t h.cells
def zCc (t:aM)(h:bK S K R c c')(off:Nat):aG P S K (VA S K) (part t c off) R (part t c' off):=by
 unfold part;refine aG.bnd (zx9 t) ?_;rintro R1 h1 b _ rfl
 cases b with
 |true=>
  simp only[if_true];refine aG.bnd (Ar t) ?_;rintro R2 h2 n _ rfl;exact aG.ret (VR.agg' (((h.mono h1.le).mono h2.le).extract _ _))
 |false=>
  simp only[jE,if_false]
  cases hc:c[off]? with
  |none=>exact .inl bN
  |some v=>obtain⟨v',Ke,qS⟩:=(h.mono h1.le).get hc;rw[Ke];exact aG.ret qS
end
section
variable {P:dM}{S:aP->Prop}{K:Pr}{α β γ δ:Type}{R:Pr}
def zF3 (hz:H6 P S)(e:aM):aG P S K (VA S K) (zja e true (.tuple #[])) R (zja e true (.tuple #[])):=by
 unfold zja;refine aG.bnd (Oj hz e) ?_;intro R1 h1 z z' pA;refine aG.bnd (zwE e pA) ?_;intro R2 h2 a a' ha;exact aG.ret (.pointer (.some ha))
variable {v v':aF}
def zCF (e:aM)(h:VR S K R v v'):aG P S K (VA S K) (zmO e v) R (zmO e v'):=by
 unfold zmO;refine aG.bnd (zwE e h) ?_;intro R2 h2 a a' ha;exact aG.ret (.pointer (.some ha))
def zEZ (t:aM)(h:VR S K R v v'):aG P S K (VA S K) (zjT t v) R (zjT t v'):=by
 unfold zjT;refine aG.bnd (zbc h) ?_;intro R1 h1 a a' ha;exact zqa t ha
def zz8 (t:aM){a a':aF}(h:VR S K R a a')(hv:VR S K R v v'):aG P S K lR (zli t a v) R (zli t a' v'):=by
 unfold zli;refine aG.bnd (zbc h) ?_;intro R1 h1 a a' ha;exact zHH t ha (hv.mono h1.le)
def zsp {r r':Nat}(h:R r r'):aG P S K (λ_ a b=>a=none/\b=none) (viewAt r) R (viewAt r'):=by
 unfold viewAt;refine aG.bnd (zaX h) ?_;rintro R1 h1 x _ rfl
 cases x with
 |some x=>exact aG.ret ⟨rfl,rfl⟩
 |none=>
  refine aG.bnd (Qx (h1.le _ _ h)) ?_;intro R2 h2 o o' ho;cases ho<;>exact aG.ret ⟨rfl,rfl⟩
variable {a a':bL}
def zHb (h:fX R a a'):aG P S K lR (noView a) R (noView a'):=by
 cases h with
 |mk h=>
  unfold noView;refine aG.bnd (zsp h) ?_;rintro R1 h1 _ _ ⟨rfl,rfl⟩;exact aG.ret rfl
def Tw (h:fX R a a'):aG P S K lR (byteOf a) R (byteOf a'):=by
 have h0:=h
 cases h with
 |mk h=>
  rename_i b b' o sp;unfold byteOf
  cases sp with
  |some s=>exact aG.ret rfl
  |none=>
   refine aG.bnd Rb ?_;rintro R1 h1 p q ⟨rfl,rfl⟩;refine aG.bnd (zHb (h0.mono h1.le)) ?_;rintro R2 h2 _ _ _;refine aG.bnd (zaX (h2.le _ _ (h1.le _ _ h))) ?_;rintro R3 h3 x _ rfl
   cases x with
   |none=>exact .inl bN
   |some x=>
    obtain⟨e,n⟩:=x;simp only[P.cells_g,P.bytes_g,P.depth_g,P.byteOfCell_g];split
    .exact aG.ret rfl
    .split
     .exact aG.ret rfl
     .exact .inl bN
def zzR (h:fX R a a')(c b:Nat):aG P S K (λR a b=>fX R a b) (partAt a c b) R (partAt a' c b):=by
 unfold partAt;refine aG.bnd (Tw h) ?_;rintro R1 h1 n _ rfl;have h':=h.mono h1.le
 cases h' with
 |mk h'=>
  refine aG.bnd (Tw (.mk h')) ?_;rintro R2 h2 m _ rfl;split<;>exact aG.ret (.mk (h2.le _ _ h'))
def zJQ (h:fX R a a')(f:Field):aG P S K (λR a b=>fX R a b) (fieldPlace a f) R (fieldPlace a' f):=by
 unfold fieldPlace;refine aG.bnd (Ar f.type) ?_;rintro R1 h1 n _ rfl;split
 .exact zzR (h.mono h1.le) _ _
 .exact aG.ret ((h.mono h1.le).add _)
def zCB (s:aM)(h:VR S K R v v')(f:Nat):aG P S K (VA S K) (zlK s v f) R (zlK s v' f):=by
 unfold zlK;refine aG.bnd (l9 s) ?_;rintro R1 h1 d _ ⟨rfl,hd⟩
 cases d with
 |struct fields=>
  simp only
  cases hf:fields[f]? with
  |none=>exact .inl bN
  |some fl=>
   refine aG.bnd (zbc (h.mono h1.le)) ?_;intro R2 h2 a a' ha;refine aG.bnd (zJQ ha fl) ?_;intro R3 h3 b b' hb;exact aG.ret (.pointer (.some hb))
 |_=>exact .inl bN
def zm8 (t:aM)(k:Ec)(i:Int)(b:Option bL)(len:Nat)(elem:aM):cU Value:=do
 let tiny:=len<=1&&(match<-underlying t with| .array .. =>true|_=>false)
 match b with
 |some a=>
  if 0<=i/\i<len then pure (.pointer (some (a.add (i.toNat*(<-sizeOf elem)))))
  else if tiny then unsupported (.noEntry "op/indexAddr.an index out of range at an array of length 0 or 1 (ledger 616)")
  else boundsPanic k i len .index
 |none=>boundsPanic k i 0 .index
def zoH (t:aM)(k:Ec)(i:Int){b b':Option bL}(h:wK R b b')(len:Nat)(elem:aM):aG P S K (VA S K) (zm8 t k i b len elem) R (zm8 t k i b' len elem):=by
 unfold zm8;refine aG.bnd (l9 t) ?_;rintro R3 h3 d _ ⟨rfl,hd⟩;have b6:=h.mono h3.le
 cases b6 with
 |none=>exact .inl Yt
 |some ha=>
  simp only;split
  .refine aG.bnd (Ar elem) ?_
   rintro R4 h4 sz _ rfl;exact aG.ret (.pointer (.some ((ha.mono h4.le).add _)))
  .refine .inl ?_
   split<;>first|exact lJ|exact Yt|(split<;>first|exact lJ|exact Yt)
def zHv (t:aM){i i':aF}(h:VR S K R v v')(hi:VR S K R i i'):aG P S K (VA S K) (znL t v i) R (znL t v' i'):=by
 unfold znL;refine aG.bnd (zd6 hi) ?_;rintro R1 h1 ⟨k,n⟩ _ rfl;refine aG.bnd (l9 t) ?_;rintro R2 h2 d _ ⟨rfl,hd⟩;have hv:=(h.mono h1.le).mono h2.le
 cases d with
 |array len elem=>
  refine aG.bnd (zbc hv) ?_;intro R3 h3 a a' ha;exact zoH t k n (.some ha) len elem
 |slice elem=>
  cases hv with
  |slice ho=>exact zoH t k n ho _ elem
  |_=>exact .inl (bN.bnd _)
 |_=>exact .inl (bN.bnd _)
def zzH (t:aM){i i':aF}(h:VR S K R v v')(hi:VR S K R i i'):aG P S K (VA S K) (znP t v i) R (znP t v' i'):=by
 unfold znP;refine aG.bnd (zd6 hi) ?_;rintro R1 h1 ⟨k,n⟩ _ rfl;refine aG.bnd (l9 t) ?_;rintro R2 h2 d _ ⟨rfl,hd⟩;have hv:=(h.mono h1.le).mono h2.le
 cases d with
 |array len elem=>
  cases hv with
  |agg e hc=>
   simp only;split
   .refine aG.bnd (Ar elem) ?_
    rintro R3 h3 sz _ rfl;exact zCc elem (bK.mono h3.le ⟨e,hc⟩) _
   .exact .inl Yt
  |_=>exact .inl bN
 |string=>
  cases hv with
  |string s=>
   simp only;split
   .exact aG.ret (.int _ _)
   .exact .inl Yt
  |_=>exact .inl bN
 |_=>exact .inl bN
def Z9 (h:VR S K R v v')(y:Nat)(c:zhI):aG P S K lR (Lh v y c) R (Lh v' y c):=by
 unfold Lh;refine aG.bnd (zd6 h) ?_;rintro R1 h1 ⟨k,n⟩ _ rfl;simp only;split
 .exact aG.ret rfl
 .exact .inl Yt
inductive y7 (S:aP->Prop)(K R:Pr):Option aF->Option aF->Prop
 |none:y7 S K R none none
 |some {v v':aF}:VR S K R v v'->y7 S K R (some v) (some v')
def y7.mono {R':Pr}(h:R.le R'){v v':Option aF}(x:y7 S K R v v'):y7 S K R' v v':=by cases x with|none=>exact .none|some x=>exact .some (x.mono h)
variable {x8 gV Zk:Option aF}
def zgd (b:Bool)(len cap:Nat){lo hi mx:Option aF}(hl:y7 S K R lo x8)(hh:y7 S K R hi gV)(hm:y7 S K R mx Zk):
 aG P S K lR (Xz b len cap lo hi mx) R (Xz b len cap x8 gV Zk):=by
 have nd:∀{R1:Pr},xW P K R R1->∀(m h:Nat) (c:zhI),aG P S K (lR (α:=Nat×Nat×Nat)) (match lo with|some v=>(do let l<-Lh v h c;pure (l,h,m))|none=>pure (0,h,m)) R1 (match x8 with|some v=>(do let l<-Lh v h c;pure (l,h,m))|none=>pure (0,h,m)):=by
  intro R1 h1 m h c
  cases hl with
  |none=>exact aG.ret rfl
  |some z=>
   refine aG.bnd (Z9 (z.mono h1.le) h c) ?_;rintro R2 h2 l _ rfl;exact aG.ret rfl
 unfold Xz
 cases hm with
 |none=>
  cases hh with
  |none=>cases hl with
   |none=>exact aG.ret rfl
   |some z=>exact nd (xW.refl R) cap len (if(none:Option aF).isSome then .slice3C else .sliceB)
  |some x=>
   refine aG.bind (α:=Nat) (A:=lR) (s:=Lh _ cap (if b then .sliceAcap else .sliceAlen)) (s':=Lh _ cap (if b then .sliceAcap else .sliceAlen)) (Z9 x _ _) ?_;rintro R2 h2 h _ rfl
   cases hl with
   |none=>exact aG.ret rfl
   |some z=>exact nd h2 cap h (if(none:Option aF).isSome then .slice3C else .sliceB)
 |some y=>
  refine aG.bnd (Z9 y _ _) ?_;rintro R1 h1 m _ rfl
  cases hh with
  |none=>exact .inl (bN.bnd _)
  |some x=>
   refine aG.bnd (Z9 (x.mono h1.le) _ _) ?_;rintro R2 h2 h _ rfl
   cases hl with
   |none=>exact aG.ret rfl
   |some z=>
    refine aG.bnd (Z9 ((z.mono h1.le).mono h2.le) _ _) ?_;rintro R3 h3 l _ rfl;exact aG.ret rfl
def zA6 (t:aM){lo hi mx:Option aF}(h:VR S K R v v')(hl:y7 S K R lo x8)(hh:y7 S K R hi gV)(hm:y7 S K R mx Zk):
 aG P S K (VA S K) (Wx t v lo hi mx) R (Wx t v' x8 gV Zk):=by
 unfold Wx;refine aG.bnd (l9 t) ?_;rintro R1 h1 d _ ⟨rfl,hd⟩;have hv:=h.mono h1.le
 cases d with
 |string=>
  cases hv with
  |string s=>
   simp only
   cases hm with
   |some y=>exact .inl (bN.bnd _)
   |none=>
    refine aG.bnd (zgd _ _ _ (hl.mono h1.le) (hh.mono h1.le) .none) ?_;rintro R2 h2 ⟨l,h,m⟩ _ rfl;exact aG.ret (.string _)
  |_=>exact .inl bN
 |slice elem=>
  cases hv with
  |slice ho=>
   refine aG.bnd (zgd _ _ _ (hl.mono h1.le) (hh.mono h1.le) (hm.mono h1.le)) ?_;rintro R2 h2 ⟨l,h,m⟩ _ rfl;refine aG.bnd (Ar elem) ?_;rintro R3 h3 sz _ rfl;refine aG.ret (.slice ?_);split
   .exact(ho.mono h2.le).mono h3.le
   .exact((ho.mono h2.le).mono h3.le).map _
  |_=>exact .inl bN
 |pointer arr=>
  refine aG.bnd (zxV hv) ?_;intro R2 h2 a a' ha;refine aG.bnd (l9 arr) ?_;rintro R3 h3 d _ ⟨rfl,hd⟩
  cases d with
  |array n elem=>
   refine aG.bnd (zgd _ _ _ (((hl.mono h1.le).mono h2.le).mono h3.le) (((hh.mono h1.le).mono h2.le).mono h3.le) (((hm.mono h1.le).mono h2.le).mono h3.le)) ?_;rintro R4 h4 ⟨l,h,m⟩ _ rfl;refine aG.bnd (Ar elem) ?_;rintro R5 h5 sz _ rfl;refine aG.ret (.slice (.some ?_));have fM:=((ha.mono h3.le).mono h4.le).mono h5.le;split
   .exact fM
   .exact fM.add _
  |_=>exact .inl bN
 |_=>exact .inl bN
def zC6 (t:aM){lo hi mx:Option aF}(h:VR S K R v v')(hl:y7 S K R lo x8)(hh:y7 S K R hi gV)(hm:y7 S K R mx Zk):
 aG P S K (VA S K) (Vj t v lo hi mx) R (Vj t v' x8 gV Zk):=by
 unfold Vj;refine aG.bnd (l9 t) ?_;rintro R1 h1 d _ ⟨rfl,hd⟩
 cases d with
 |array n elem=>
  refine aG.bnd (zbc (h.mono h1.le)) ?_;intro R2 h2 a a' ha;refine aG.bnd (zgd _ _ _ ((hl.mono h1.le).mono h2.le) ((hh.mono h1.le).mono h2.le) ((hm.mono h1.le).mono h2.le)) ?_;rintro R4 h4 ⟨l,h,m⟩ _ rfl;refine aG.bnd (Ar elem) ?_;rintro R5 h5 sz _ rfl;refine aG.ret (.slice (.some ?_));have fM:=(ha.mono h4.le).mono h5.le;split
  .exact fM
  .exact fM.add _
 |_=>exact zA6 t (h.mono h1.le) (hl.mono h1.le) (hh.mono h1.le) (hm.mono h1.le)
def zyW (h:VR S K R v v')(i:Nat):aG P S K (VA S K) (zlg v i) R (zlg v' i):=by
 unfold zlg
 cases h with
 |tuple e hc=>
  rename_i xs bY;simp only
  cases hq:xs[i]? with
  |none=>exact .inl bN
  |some u=>
   obtain⟨u',Ni,zbS⟩:=bK.get ⟨e,hc⟩ hq;rw[Ni];exact aG.ret zbS
 |_=>exact .inl bN
def zyG (t:aM){r r':Option aF}(h:y7 S K R r r'):aG P S K (VA S K) (zjB t r) R (zjB t r'):=by
 have fin:∀{R1:Pr},aG P S K (VA S K) (do pure (.map (some (<-newObj (.map #[] 0))))) R1 (do pure (.map (some (<-newObj (.map #[] 0))))):=by
  intro R1;refine aG.bnd (zhj (.map ⟨rfl,λi e e' h=>by simp at h⟩)) ?_;intro R2 h2 n n' hn;exact aG.ret (.map (.some hn))
 unfold zjB
 cases h with
 |none=>exact fin
 |some x=>
  refine aG.bnd (l9 t) ?_;rintro R1 h1 d _ ⟨rfl,hd⟩
  cases d with
  |map k e=>
   refine aG.bnd (Xx (x.mono h1.le)) ?_;rintro R2 h2 n _ rfl;exact fin
  |_=>exact .inl (bN.bnd _)
def zGV (t:aM)(h:VR S K R v v'):aG P S K (VA S K) (zlm t v) R (zlm t v'):=by
 unfold zlm;refine aG.bnd (Xx h) ?_;rintro R1 h1 n _ rfl;refine aG.bnd (l9 t) ?_;rintro R2 h2 d _ ⟨rfl,hd⟩
 cases d with
 |chan dir elem=>
  refine aG.bnd (En elem) ?_;rintro R3 h3 inf _ ⟨rfl,hi⟩;simp only;split
  .exact .inl (vE.bnd _)
  .refine aG.bnd (zhj (.chan bK.empty)) ?_
   intro R4 h4 n n' hn;exact aG.ret (.chan (.some (.inl hn)))
 |_=>exact .inl bN
end
section
variable {P:dM}{S:aP->Prop}{K:Pr}{α β γ δ:Type}{R:Pr}
def D7.eq_iff {R:Pr}(inj:∀a b c,R a b->R a c->b=c)(inj':∀a b c,R a c->R b c->a=b){a a' b b':Option Nat}(h:D7 R a a')(h':D7 R b b'):(a==b)=(a'==b'):=by
 cases h with
 |none=>cases h' with
  |none=>rfl
  |some y=>rfl
 |some x=>cases h' with
  |none=>rfl
  |some y=>
   rename_i p p' q q';rw[M9];simp only[beq_iff_eq,gA];exact⟨λe=>inj _ _ _ (e▸x) y,λe=>inj' _ _ _ (e▸x) y⟩
variable {r r':Nat}
def zlL (h:R r r'):aG P S K (λR a b=>(a=none/\b=none)\/∃x x' l,a=some (x,l)/\b=some (x',l)/\fX R x x') (numberAt r) R (numberAt r'):=by
 unfold numberAt;refine aG.bnd (zaX h) ?_;rintro R1 h1 x _ rfl
 cases x with
 |some x=>exact aG.ret (.inl ⟨rfl,rfl⟩)
 |none=>
  refine aG.bnd (Qx (h1.le _ _ h)) ?_;intro R2 h2 o o' ho
  cases ho with
  |number ha=>exact aG.ret (.inr ⟨_,_,_,rfl,rfl,ha⟩)
  |_=>exact aG.ret (.inl ⟨rfl,rfl⟩)
variable {a a':bL}
def zn3 (h:fX R a a'):aG P S K (λR x y=>fX R x.1 y.1) (behindNumber a) R (behindNumber a'):=by
 have h0:=h
 cases h with
 |mk h=>
  unfold behindNumber;refine aG.bnd (zlL h) ?_;rintro R1 h1 x y (⟨rfl,rfl⟩|⟨p,p',l,rfl,rfl,hp⟩)
  .exact aG.ret (h0.mono h1.le)
  .exact aG.ret hp
def zaW:Zr->Bool
 | .bool| .int _| .string| .chan .. =>true
 |_=>false
def fX.block_eq (hR:tZ P K R){b b':bL}(h:fX R a a')(h':fX R b b'):(a.block==b.block)=(a'.block==b'.block):=by
 cases h with
 |mk x=>
  cases h' with
  |mk y=>
   rw[M9];simp only[beq_iff_eq];exact⟨λe=>hR.inj _ _ _ (.inl (e▸x)) (.inl y),λe=>hR.inj' _ _ _ (.inl (e▸x)) (.inl y)⟩
def zFU (h:R r r'):aG P S K (λR' a b=>R'=R/\a=b) (shape r) R (shape r'):=.inr ⟨r',_,rfl,h,λx=>.inr ⟨x,rfl,rfl,rfl⟩⟩
def zEh (h:R r r'):aG P S K (λR' o o'=>R'=R/\oO S K R o o') (getObj r) R (getObj r'):=.inr ⟨r',_,rfl,.inl h,λo o' ho=>.inr ⟨o',rfl,rfl,ho⟩⟩
def zje:aG P S K (λR' a b=>R'=R/\a=P.g/\b=P.c) program R program:=.inr ⟨_,rfl,.inr ⟨P.c,rfl,rfl,rfl,rfl⟩⟩
def zBl (h:R r r'):aG P S K (λR' a b=>R'=R/\((a=none/\b=none)\/∃x x' l,a=some (x,l)/\b=some (x',l)/\fX R x x')) (numberAt r) R (numberAt r'):=by
 unfold numberAt;refine aG.bnd (zFU h) ?_;rintro R1 _ x _ ⟨rfl,rfl⟩
 cases x with
 |some x=>exact aG.ret ⟨rfl,.inl ⟨rfl,rfl⟩⟩
 |none=>
  refine aG.bnd (zEh h) ?_;rintro R2 _ o o' ⟨rfl,ho⟩
  cases ho with
  |number ha=>exact aG.ret ⟨rfl,.inr ⟨_,_,_,rfl,rfl,ha⟩⟩
  |_=>exact aG.ret ⟨rfl,.inl ⟨rfl,rfl⟩⟩
def zel (h:fX R a a'):aG P S K (λR' x y=>R'=R/\fX R x.1 y.1) (behindNumber a) R (behindNumber a'):=by
 have h0:=h
 cases h with
 |mk h=>
  unfold behindNumber;refine aG.bnd (zBl h) ?_;rintro R1 _ x y ⟨rfl,⟨rfl,rfl⟩|⟨p,p',l,rfl,rfl,hp⟩⟩
  .exact aG.ret ⟨rfl,h0⟩
  .exact aG.ret ⟨rfl,hp⟩
def fX.low (hR:tZ P K R)(h:fX R a a'):decide (a.block<P.globals.size)=decide (a'.block<P.globals.size):=by
 cases h with
 |mk x=>exact decide_eq_decide.2 (hR.low _ _ x)
def zkj (P:dM)(t:aM):Prop:=∀i x,P.info? t=some i->i.desc≠ .named "sync.copyChecker" x
def zA5 {t:aM}(hc:zkj P t)(hR:tZ P K R){b b':bL}(ha:fX R a a')(hb:fX R b b'):
 aG P S K lR (do
  let(a,b):=((<-behindNumber a).1,(<-behindNumber b).1)
  if a.block==b.block&&a.block<(<-program).globals.size then return (<-byteOf a)==(<-byteOf b)
  let .named "sync.copyChecker" _:=(<-typeInfo t).desc|unsupported .addressObserved
  if a==b then pure true else unsupported .addressObserved) R (do
  let(a,b):=((<-behindNumber a').1,(<-behindNumber b').1)
  if a.block==b.block&&a.block<(<-program).globals.size then return (<-byteOf a)==(<-byteOf b)
  let .named "sync.copyChecker" _:=(<-typeInfo t).desc|unsupported .addressObserved
  if a==b then pure true else unsupported .addressObserved):=by
 refine aG.bnd (zel ha) ?_;rintro R1 _ x y ⟨rfl,hx⟩;refine aG.bnd (zel hb) ?_;rintro R2 _ u v ⟨rfl,hu⟩;refine aG.bnd zje ?_;rintro R3 _ p q ⟨rfl,rfl,rfl⟩;rw[<-fX.block_eq hR hx hu,P.globals_g,<-fX.low hR hx];split
 .refine aG.bnd (Tw hx) ?_
  rintro R4 h4 m _ rfl;refine aG.bnd (Tw (hu.mono h4.le)) ?_;rintro R5 h5 m' _ rfl;exact aG.ret rfl
 .refine aG.bnd (En t) ?_
  rintro R4 h4 i _ ⟨rfl,hi⟩;refine .inl ?_;split
  .next e=>exact absurd e (hc i _ hi)
  .exact lJ
def zyx (n:Nat)(t:aM)(d:Zr)(hd:P.underlying t=some d)(ok:zaW d=true)(hc:∀k,d=.int k->zkj P t)(hR:tZ P K R){x x' y y':aF}(hx:VR S K R x x')(hy:VR S K R y y'):
 aG P S K lR (Da (n+1) t x y) R (Da (n+1) t x' y'):=by
 unfold Da;refine aG.bnd (A:=λR' a b=>R'=R/\a=b/\P.underlying t=some a) (by
  unfold underlying;refine aG.bnd zje ?_;rintro R' _ a b ⟨rfl,ha,hb⟩;rw[ha,hb,P.underlying_g]
  cases h:P.c.underlying t with
  |some d=>exact aG.ret ⟨rfl,rfl,h⟩
  |none=>exact .inl bN) ?_
 rintro R1 _ d' _ ⟨rfl,rfl,Be⟩;obtain rfl:d'=d:=by rw[hd] at Be;injection Be with e;exact e.symm
 cases d' with
 |bool=>
  cases hx with
  |bool a=>cases hy with
   |bool b=>exact aG.ret rfl
   |_=>exact .inl bN
  |_=>first|exact .inl bN|(cases hy<;>exact .inl bN)
 |string=>
  cases hx with
  |string a=>cases hy with
   |string b=>exact aG.ret rfl
   |_=>exact .inl bN
  |_=>first|exact .inl bN|(cases hy<;>exact .inl bN)
 |chan dir el=>
  cases hx with
  |chan a=>cases hy with
   |chan b=>exact aG.ret (D7.eq_iff hR.inj hR.inj' a b)
   |_=>exact .inl bN
  |_=>first|exact .inl bN|(cases hy<;>exact .inl bN)
 |int ik=>
  cases hx with
  |int k a=>cases hy with
   |int k' b=>
    simp only;split
    .exact aG.ret rfl
    .exact .inl bN
   |pointer q=>
    cases q with
    |none=>exact .inl zhr
    |some q=>
     by_cases h0:a=0
     .subst h0;exact aG.ret rfl
     .refine .inl ?_
      split<;>first|exact lJ|exact bN|(exfalso;simp_all;done)
   |_=>exact .inl zhR
  |pointer p=>cases p with
   |none=>cases hy<;>first|exact .inl lJ|exact .inl bN
   |some p=>
    cases hy with
    |int k' b=>
     by_cases h0:b=0
     .subst h0;exact aG.ret rfl
     .refine .inl ?_
      split<;>first|exact lJ|exact bN|(exfalso;simp_all;done)
    |pointer q=>
     cases q with
     |none=>exact .inl zhr
     |some q=>exact zA5 (hc ik rfl) hR p q
    |_=>exact .inl zhr
  |_=>cases hy<;>first|exact .inl bN|exact .inl lJ
 |_=>cases ok
end
section
variable {P:dM}{S:aP->Prop}{K:Pr}{α β γ δ:Type}{R:Pr}
def Mc (S:aP->Prop)(K R:Pr)(es fE:List oP):Prop:=es.length=fE.length/\∀(i:Nat) (e e':oP),es[i]? =some e->fE[i]? =some e'->B8 S K R e e'
variable {es fE:Array oP}
def qH.toList (h:qH S K R es fE):Mc S K R es.toList fE.toList:=⟨by simpa using h.1,λi e e' h1 h2=>h.2 i e e' Uz Sb⟩
variable {e e':oP}
def Mc.cons {es fE:List oP}(h:Mc S K R (e::es) (e'::fE)):B8 S K R e e'/\Mc S K R es fE:=
 ⟨h.2 0 e e' rfl rfl,by simpa using h.1,λi a b h1 h2=>h.2 (i+1) a b Uz Sb⟩
def Mc.mono {R':Pr}(hR:R.le R'){es fE:List oP}(h:Mc S K R es fE):Mc S K R' es fE:=⟨h.1,λi e e' h1 h2=>(h.2 i e e' h1 h2).mono hR⟩
def wK.eq_iff (hR:tZ P K R){a a' b b':Option bL}(h:wK R a a')(h':wK R b b'):(a==b)=(a'==b'):=by
 cases h with
 |none=>cases h' with
  |none=>rfl
  |some y=>rfl
 |some x=>cases h' with
  |none=>rfl
  |some y=>
   cases x with
   |mk x=>
    cases y with
    |mk y=>
     rw[M9];simp only[beq_iff_eq,gA,zvX];exact⟨λe=>⟨hR.inj _ _ _ (.inl (e.1▸x)) (.inl y),e.2⟩,λe=>⟨hR.inj' _ _ _ (.inl (e.1▸x)) (.inl y),e.2⟩⟩
def Flat:aF->Prop
 | .tuple _| .agg _| .iface _ _| .nilFunc=>False
 |_=>True
variable {x x' y:aF}
def zDo (hR:tZ P K R)(n:Nat){y':aF}(fx:Flat x)(fy:Flat y)(hx:VR S K R x x')(hy:VR S K R y y'):zai n x y=zai n x' y':=by
 cases n<;>(
  cases hx with
  |pointer h1=>cases hy with
   |pointer h2=>exact wK.eq_iff hR h1 h2
   |junk h=>exact fy.elim
   |_=>rfl
  |chan h1=>cases hy with
   |chan h2=>exact D7.eq_iff hR.inj hR.inj' h1 h2
   |junk h=>exact fy.elim
   |_=>rfl
  |junk h=>exact fx.elim
  |iface h1=>exact fx.elim
  |agg h1=>exact fx.elim
  |tuple h1=>exact fx.elim
  |_=>cases hy<;>first|rfl|exact fy.elim)
variable {t:aM}{d:Zr}
def zmP (hd:P.underlying t=some d)(ok:zaW d=true)(h:¬(Flat x/\Flat y)):fC P (zA t x y):=by
 have e:zA t x y=Da (9999+1) t x y:=rfl;rw[e];unfold Da;have hu:∀w,(underlying t).run P.g w=.ok d w:=λw=>by
  have:P.g.underlying t=some d:=hd;simp[underlying,program,bD,bind,cU.bind,pure,this]
 have key:∀{f:Zr->cU Bool},fC P (f d)->fC P (underlying t>>=f):=λ{f} hf w hw=>by
  obtain⟨h1,w1,h2,h3⟩:=hf w hw;refine⟨h1,w1,?_,h3⟩;have:=sE P.g (underlying t) f w;rw[hu] at this;exact this.trans h2
 refine key ?_;cases d<;>first|(cases ok;done)|skip
 all_goals(cases x<;>cases y<;>first
  |exact(h ⟨True.intro,True.intro⟩).elim
  |exact bN
  |exact lJ
  |(split<;>first|exact bN|exact lJ|(simp_all;done)))
def zzu {b:Bool}(h:vT d x y=some b):Flat x/\Flat y:=by
 cases x<;>cases d<;>first|(simp[vT] at h;done)|(cases y<;>first|exact⟨trivial,trivial⟩|(simp[vT] at h;done))
variable {k k':aF}
def zEm (d:Zr){e e':aF}(f1:Flat k)(f2:Flat e)(hk:VR S K R k k')(he:VR S K R e e'):vT d k e=vT d k' e':=by
 cases hk with
 |junk _=>exact f1.elim
 |int i n=>cases he with
  |int i n=>rfl
  |junk _=>exact f2.elim
  |_=>cases d<;>rfl
 |string s=>cases he with
  |string s=>rfl
  |junk _=>exact f2.elim
  |_=>cases d<;>rfl
 |bool s=>cases he with
  |bool s=>rfl
  |junk _=>exact f2.elim
  |_=>cases d<;>rfl
 |_=>cases d<;>rfl
inductive OfR (S:aP->Prop)(K R:Pr)(F:Nat->Prop):Option (Nat×aF)->Option (Nat×aF)->Prop
 |none:OfR S K R F none none
 |some {i:Nat} {v v':aF}:VR S K R v v'->F i->OfR S K R F (some (i,v)) (some (i,v'))
structure Ly (P:dM)(t:aM):Prop where
 ex:∃d,P.underlying t=some d/\zaW d=true
 nc:∀k,P.underlying t=some (.int k)->zkj P t
def zjj (ht:Ly P t)(hR:tZ P K R){y':aF}(hx:VR S K R x x')(hy:VR S K R y y'):aG P S K lR (zA t x y) R (zA t x' y'):=by
 obtain⟨d,hd,ok⟩:=ht.ex;have e:∀a b,zA t a b=Da (9999+1) t a b:=λa b=>rfl;rw[e,e];exact zyx 9999 t d hd ok (λk e=>ht.nc k (e▸hd)) hR hx hy
def zAk (hd:P.underlying t=some d)(h:vT d x y=some false)(w:aE):(zA t x y).run P.g w=.ok false w:=by
 have e:zA t x y=Da (9999+1) t x y:=rfl;have hg:P.g.underlying t=some d:=hd;have hu:(underlying t).run P.g w=.ok d w:=by simp[underlying,program,bD,bind,cU.bind,pure,hg]
 rw[e];unfold Da;refine(sE P.g (underlying t) _ w).trans ?_;rw[hu]
 cases x with
 |bool a=>
  cases d with
  |bool=>
   cases y with
   |bool b=>
    have h':(a==b)=false:=by simpa[vT] using h
    show bD P.g (pure (a==b)) w=_;rw[h'];rfl
   |_=>simp[vT] at h
  |_=>simp[vT] at h
 |string a=>
  cases d with
  |string=>
   cases y with
   |string b=>
    have h':(a==b)=false:=by simpa[vT] using h
    show bD P.g (pure (a==b)) w=_;rw[h'];rfl
   |_=>simp[vT] at h
  |_=>simp[vT] at h
 |int k a=>
  cases d with
  |int dk=>
   cases y with
   |int k' b=>
    simp only[vT] at h;split at h
    .next hk=>
     have h':(a==b)=false:=by simpa using h
     show bD P.g (if k=k' then pure (a==b) else stuck "==: kinds differ") w=_;rw[if_pos hk,h'];rfl
    .cases h
   |_=>simp[vT] at h
  |_=>simp[vT] at h
 |_=>cases d<;>simp[vT] at h
def zoJ (hd:P.underlying t=some d)(ok:zaW d=true)(hk:VR S K R k k'){F:Nat->Prop}:∀(es fE:List oP) (i:Nat),Mc S K R es fE->(∀j e,es[j]? =some e->Flat k->Flat e.key->F (i+j))->
 (G2 d k es i=none/\fC P (Ku t k es i))\/(G2 d k es i=none/\G2 d k' fE i=none)\/∃r r',G2 d k es i=some r/\G2 d k' fE i=some r'/\OfR S K R F r r'
 |[],[],i,h,_=>.inr (.inr ⟨_,_,rfl,rfl,.none⟩)
 |[],_::_,i,h,_=>by have:=h.1;simp at this
 |_::_,[],i,h,_=>by have:=h.1;simp at this
 |e::es,e'::fE,i,h,hF=>by
  obtain⟨h1,h2⟩:=h.cons
  cases h1 with
  |mk vA hv=>
   rename_i ek ek' ev ev' born;by_cases hf:Flat k/\Flat ek
   .unfold G2
    simp only[<-zEm d hf.1 hf.2 hk vA]
    cases hs:vT d k ek with
    |none=>exact .inr (.inl ⟨rfl,rfl⟩)
    |some b=>cases b with
     |true=>exact .inr (.inr ⟨_,_,rfl,rfl,.some hv ztO⟩)
     |false=>
      rcases zoJ hd ok hk es fE (i+1) h2 (λj e he a b=>by have:=hF (j+1) e (by simpa using he) a b;rwa [show i+1+j=i+(j+1) by omega]) with⟨hq,hn⟩|hr
      .refine .inl ⟨hq,λw hw=>?_⟩
       obtain⟨hh,w1,q1,q2⟩:=hn w hw;refine⟨hh,w1,?_,q2⟩;unfold Ku;refine(sE P.g _ _ w).trans ?_;rw[zAk hd hs w];exact q1
      .exact .inr hr
   .refine .inl ⟨?_,?_⟩
    .unfold G2
     cases hs:vT d k ek with
     |none=>rfl
     |some b=>exact absurd (zzu hs) hf
    .unfold Ku
     exact(zmP hd ok hf).bnd _
def zyk (ht:Ly P t):∀(es fE:List oP) (i:Nat) {R:Pr} {k k':aF} {F:Nat->Prop},tZ P K R->VR S K R k k'->Mc S K R es fE->(∀j e,es[j]? =some e->Flat k->Flat e.key->F (i+j))->
 aG P S K (λR' a b=>OfR S K R' F a b) (Ku t k es i) R (Ku t k' fE i)
 |[],[],i,R,k,k',F,hR,hk,h,hF=>aG.ret .none
 |[],_::_,i,R,k,k',F,hR,hk,h,hF=>by have:=h.1;simp at this
 |_::_,[],i,R,k,k',F,hR,hk,h,hF=>by have:=h.1;simp at this
 |e::es,e'::fE,i,R,k,k',F,hR,hk,h,hF=>by
  obtain⟨h1,h2⟩:=h.cons
  cases h1 with
  |mk vA hv=>
   rename_i ek ek' ev ev' born;by_cases hf:Flat k/\Flat ek
   rotate_left
   .obtain⟨d,hd,ok⟩:=ht.ex
    refine .inl ?_;unfold Ku;exact(zmP hd ok hf).bnd _
   unfold Ku;refine aG.bnd (zjj ht hR hk vA) ?_;rintro R1 hx b _ rfl
   cases b with
   |true=>exact aG.ret (.some (hv.mono hx.le) ztO)
   |false=>exact zyk ht es fE (i+1) (hx.ok hR) (hk.mono hx.le) (h2.mono hx.le) (λj e he a b=>by have:=hF (j+1) e (by simpa using he) a b;rwa [show i+1+j=i+(j+1) by omega])
variable {i:Nat}
def qH.get (h:qH S K R es fE)(hi:es[i]? =some e):∃e',fE[i]? =some e'/\B8 S K R e e':=by
 have:i<fE.size:=by rw[<-h.1];exact(dP.1 hi).1
 exact⟨_,mE this,h.2 i e _ hi (mE this)⟩
def qH.none (h:qH S K R es fE)(hi:es[i]? =none):fE[i]? =none:=by
 rw[zwJ] at hi⊢;rw[<-h.1];exact hi
def qH.modify (h:qH S K R es fE)(i:Nat){f f':oP->oP}(hf:∀e e',B8 S K R e e'->B8 S K R (f e) (f' e')):qH S K R (es.modify i f) (fE.modify i f'):=by
 refine⟨by simpa using h.1,λk e e' h1 h2=>?_⟩;rw[zh8] at h1 h2;split at h1
 .next e1=>
  rw[if_pos e1] at h2
  cases q:es[k]? with
  |none=>rw[q] at h1;cases h1
  |some u=>
   obtain⟨u',q',r⟩:=h.get q;rw[q] at h1;rw[q'] at h2;cases h1;cases h2;exact hf _ _ r
 .next e1=>
  rw[if_neg e1] at h2;exact h.2 k e e' h1 h2
def qH.push (h:qH S K R es fE)(he:B8 S K R e e'):qH S K R (es.push e) (fE.push e'):=by
 refine⟨by simpa using h.1,λk a a' h1 h2=>?_⟩;rw[Vr] at h1 h2;rw[<-h.1] at h2;split at h1
 .next e1=>
  rw[if_pos e1] at h2;cases h1;cases h2;exact he
 .next e1=>
  rw[if_neg e1] at h2;exact h.2 k a a' h1 h2
def qH.erase (h:qH S K R es fE)(i:Nat):qH S K R (es.eraseIdxIfInBounds i) (fE.eraseIdxIfInBounds i):=by
 unfold Array.eraseIdxIfInBounds;split
 .next hi=>
  have gV:=h.1▸hi;rw[dif_pos gV];refine⟨by simp[h.1],λk a a' h1 h2=>?_⟩;rw[Array.getElem?_eraseIdx] at h1 h2;split at h1
  .next e1=>rw[if_pos e1] at h2;exact h.2 _ _ _ h1 h2
  .next e1=>rw[if_neg e1] at h2;exact h.2 _ _ _ h1 h2
 .next hi=>
  have gV:=h.1▸hi;rw[dif_neg gV];exact h
def znn (ht:Ly P t)(hR:tZ P K R)(hk:VR S K R k k'){es fE:List oP}(he:Mc S K R es fE):
 aG P S K (λR' a b=>OfR S K R' (λi=>Flat k/\∀e,es[i]? =some e->Flat e.key) a b) (Kd t k es) R (Kd t k' fE):=by
 unfold Kd;refine aG.bnd (l9 t) ?_;rintro R1 h1 d _ ⟨rfl,hd⟩;obtain⟨d',Be,ok⟩:=ht.ex;obtain rfl:d'=d:=by rw[hd] at Be;injection Be with e;exact e.symm
 have hF:∀j e,es[j]? =some e->Flat k->Flat e.key->Flat k/\∀e,es[0+j]? =some e->Flat e.key:=λj e he a b=>⟨a,λe2 zeK=>by rw[qY,he] at zeK;injection zeK with zeK;exact zeK▸b⟩;rcases zoJ (F:=λi=>Flat k/\∀e,es[i]? =some e->Flat e.key) hd ok (hk.mono h1.le) es fE 0 (he.mono h1.le) hF with⟨e1,hn⟩|⟨e1,e2⟩|⟨r,r',e1,e2,h⟩
 .rw[e1]
  exact .inl hn
 .rw[e1,e2]
  exact zyk ht es fE 0 (h1.ok hR) (hk.mono h1.le) (he.mono h1.le) hF
 .rw[e1,e2]
  exact aG.ret h
def zFm (n:Nat)(ht:Ly P t)(b:Bool)(k k':aF):aG P S K lR (Gs b (n+1) t k) R (Gs b (n+1) t k'):=by
 obtain⟨d,hd,ok⟩:=ht.ex;unfold Gs;refine aG.bnd (l9 t) ?_;rintro R1 h1 d' _ ⟨rfl,Be⟩;obtain rfl:d'=d:=by rw[hd] at Be;injection Be with e;exact e.symm
 cases d' with
 |interface _=>cases ok
 |array _ _=>cases ok
 |struct _=>cases ok
 |_=>exact aG.ret rfl
def zfv (ht:Ly P t)(b:Bool)(k k':aF):aG P S K lR (Gs b 10000 t k) R (Gs b 10000 t k'):=zFm 9999 ht b k k'
def zz4 (hR:tZ P K R){a a' b b':aF}(fa:Flat a)(fb:Flat b)(ha:VR S K R a a')(hb:VR S K R b b'):aG P S K (VA S K) (Oy a b) R (Oy a' b'):=by
 unfold Oy;rw[zDo hR 10000 fa fb ha hb];split
 .exact aG.ret hb
 .refine aG.bnd (zgz _) ?_
  rintro R1 h1 n _ rfl;refine aG.ret ?_;split
  .exact hb.mono h1.le
  .exact ha.mono h1.le
def qH.keyD (h:qH S K R es fE)(i:Nat)(hk:VR S K R k k'):VR S K R (((es[i]?).map (·.key)).getD k) (((fE[i]?).map (·.key)).getD k'):=by
 cases q:es[i]? with
 |none=>rw[h.none q];exact hk
 |some e=>
  obtain⟨e',q',r⟩:=h.get q;rw[q']
  cases r with
  |mk a b=>exact a
def zJl (h:Flat k/\∀e,es.toList[i]? =some e->Flat e.key):Flat (((es[i]?).map (·.key)).getD k):=by
 cases q:es[i]? with
 |none=>exact h.1
 |some e=>exact h.2 e (by simpa using q)
def qH.isEmpty (h:qH S K R es fE):es.isEmpty=fE.isEmpty:=by simp[Array.isEmpty,h.1]
def zF6 (hz:H6 P S)(ht:∀k e,P.underlying t=some (.map k e)->Ly P k)(hR:tZ P K R)(hx:VR S K R x x')(hk:VR S K R k k')(c:Bool):
 aG P S K (VA S K) (zK t x k c) R (zK t x' k' c):=by
 unfold zK;refine aG.bnd (l9 t) ?_;rintro R1 h1 d _ ⟨rfl,hd⟩
 cases d with
 |map kt el=>
  have hK:=ht kt el hd
  have tail:∀R2,xW P K R1 R2->∀es fE,qH S K R2 es fE->aG P S K (VA S K)
   (do
    Gs es.isEmpty 10000 kt k
    let r<-Kd kt k es.toList
    match r with
    |some (_,v)=>do let x<-pure (v,true);pure (if c=true then X1 #[x.fst,.bool x.snd] else x.fst)
    |none=>do let z<-zeroValue el;let x<-pure (z,false);pure (if c=true then X1 #[x.fst,.bool x.snd] else x.fst)) R2
   (do
    Gs fE.isEmpty 10000 kt k'
    let r<-Kd kt k' fE.toList
    match r with
    |some (_,v)=>do let x<-pure (v,true);pure (if c=true then X1 #[x.fst,.bool x.snd] else x.fst)
    |none=>do let z<-zeroValue el;let x<-pure (z,false);pure (if c=true then X1 #[x.fst,.bool x.snd] else x.fst)):=by
   intro R2 h2 es fE he;rw[he.isEmpty];refine aG.bnd (zfv hK _ _ _) ?_;rintro R3 h3 _ _ rfl;have Xv:=h3.ok (h2.ok (h1.ok hR));have Ic:=((hk.mono h1.le).mono h2.le).mono h3.le;have fin:∀{R5:Pr} {v v':aF} {b:Bool},VR S K R5 v v'->aG P S K (VA S K) (do let x<-pure (v,b);pure (if c=true then X1 #[x.fst,.bool x.snd] else x.fst)) R5 (do let x<-pure (v',b);pure (if c=true then X1 #[x.fst,.bool x.snd] else x.fst)):=by
    intro R5 v v' b hv;refine aG.bnd (aG.ret (A:=λR (a b:aF×Bool)=>VR S K R a.1 b.1/\a.2=b.2) ⟨hv,rfl⟩) ?_;rintro R5 h5 ⟨v,b⟩ ⟨v',b'⟩ ⟨hv,e⟩;cases e
    cases c with
    |true=>exact aG.ret (VR.tuple' ((bK.empty.push hv).push (.bool b)))
    |false=>exact aG.ret hv
   refine aG.bnd (znn hK Xv Ic (he.mono h3.le).toList) ?_;intro R4 h4 r r' hr
   cases hr with
   |some hv=>exact fin hv
   |none=>
    refine aG.bnd (Oj hz el) ?_;intro R5 h5 z z' pA;exact fin pA
  cases hx with
  |map h=>
   cases h with
   |none=>exact aG.bnd (aG.ret (A:=λR a b=>qH S K R a b) ⟨rfl,λi e e' h=>by simp at h⟩) tail
   |some h=>
    refine aG.bnd (Qx (h1.le _ _ h)) ?_;intro R2 h2 o o' ho
    cases ho with
    |map he=>exact aG.bnd (aG.ret (A:=λR a b=>qH S K R a b) he) (λR3 h3 es fE he=>tail R3 (h2.trans h3) es fE he)
    |_=>exact .inl (bN.bnd _)
  |_=>exact .inl (bN.bnd _)
 |_=>exact .inl bN
def zIN (ht:∀k e,P.underlying t=some (.map k e)->Ly P k)(hR:tZ P K R){v v':aF}(hx:VR S K R x x')(hk:VR S K R k k')(hv:VR S K R v v'):
 aG P S K lR (Gi t x k v) R (Gi t x' k' v'):=by
 unfold Gi;refine aG.bnd (l9 t) ?_;rintro R1 h1 d _ ⟨rfl,hd⟩
 cases d with
 |map kt el=>
  have hK:=ht kt el hd
  cases hx with
  |map h=>
   cases h with
   |none=>exact .inl vE
   |some h=>
    refine aG.bnd (Qx (h1.le _ _ h)) ?_;intro R2 h2 o o' ho
    cases ho with
    |map he=>
     rename_i cl;refine aG.bnd (zfv hK _ _ _) ?_;rintro R3 h3 _ _ rfl;have Xv:=h3.ok (h2.ok (h1.ok hR));have Ic:=((hk.mono h1.le).mono h2.le).mono h3.le;have Ts:=h3.le _ _ (h2.le _ _ (h1.le _ _ h));have Jz:=((hv.mono h1.le).mono h2.le).mono h3.le;refine aG.bnd (znn hK Xv Ic (he.mono h3.le).toList) ?_;intro R4 h4 r r' hr
     cases hr with
     |some hq zeT=>
      refine aG.bnd (zz4 (h4.ok Xv) (zJl zeT) zeT.1 (((he.mono h3.le).mono h4.le).keyD _ (Ic.mono h4.le)) (Ic.mono h4.le)) ?_;intro R5 h5 kk Jh fS;refine za3 (h5.le _ _ (h4.le _ _ Ts)) (.map (qH.modify (((he.mono h3.le).mono h4.le).mono h5.le) _ ?_));intro e e' zDv
      cases zDv with
      |mk a b=>exact .mk fS ((Jz.mono h4.le).mono h5.le)
     |none=>exact za3 (h4.le _ _ Ts) (.map (qH.push ((he.mono h3.le).mono h4.le) (.mk (Ic.mono h4.le) (Jz.mono h4.le))))
    |_=>exact .inl bN
  |_=>exact .inl bN
 |_=>exact .inl bN
end
section
variable {P:dM}{S:aP->Prop}{K:Pr}{α β γ δ:Type}{R:Pr}
variable {xs bY:Array aF}
def bK.opt (h:bK S K R xs bY)(i:Nat):y7 S K R xs[i]? bY[i]? :=by
 cases q:xs[i]? with
 |none=>rw[h.none q];exact .none
 |some v=>obtain⟨v',q',hv⟩:=h.get q;rw[q'];exact .some hv
def zDt (ts:Array aM)(t:aM)(h:bK S K R xs bY):aG P S K (VA S K) (zjA ts t xs) R (zjA ts t bY):=by
 unfold zjA
 cases ts[0]? with
 |none=>exact .inl bN
 |some t=>
  have ho:=h.opt 0;generalize xs[0]? =o at ho;generalize bY[0]? =o' at ho
  cases ho with
  |none=>exact .inl bN
  |some hv=>
   simp only;refine aG.bnd (l9 t) ?_;rintro R1 h1 d _ ⟨rfl,hd⟩
   cases d with
   |string=>cases hv with
    |string s=>exact aG.ret (.int _ _)
    |_=>exact .inl bN
   |array n e=>exact aG.ret (.int _ _)
   |pointer arr=>
    refine aG.bnd (l9 arr) ?_;rintro R2 h2 d2 _ ⟨rfl,Ag⟩
    cases d2 with
    |array n e=>exact aG.ret (.int _ _)
    |_=>exact .inl bN
   |slice e=>cases hv with
    |slice _=>exact aG.ret (.int _ _)
    |_=>exact .inl bN
   |map k e=>cases hv with
    |map hm=>cases hm with
     |none=>exact aG.ret (.int _ _)
     |some hm=>
      refine aG.bnd (Qx (h1.le _ _ hm)) ?_;intro R2 h2 o o' ho
      cases ho with
      |map he=>simp only;rw[he.1];exact aG.ret (.int _ _)
      |_=>exact .inl bN
    |_=>exact .inl bN
   |chan k e=>cases hv with
    |chan hm=>cases hm with
     |none=>exact aG.ret (.int _ _)
     |some hm=>
      refine aG.bnd (zuG (hm.imp (h1.le _ _) id)) ?_;intro R2 h2 o o' ho
      cases ho with
      |chan he=>simp only;rw[he.1];exact aG.ret (.int _ _)
      |_=>exact .inl bN
    |_=>exact .inl bN
   |_=>exact .inl bN
def zB4 (ts:Array aM)(t:aM)(h:bK S K R xs bY):aG P S K (VA S K) (znC ts t xs) R (znC ts t bY):=by
 unfold znC
 cases ts[0]? with
 |none=>exact .inl bN
 |some t=>
  have ho:=h.opt 0;generalize xs[0]? =o at ho;generalize bY[0]? =o' at ho
  cases ho with
  |none=>exact .inl bN
  |some hv=>
   simp only;refine aG.bnd (l9 t) ?_;rintro R1 h1 d _ ⟨rfl,hd⟩
   cases d with
   |array n e=>exact aG.ret (.int _ _)
   |pointer arr=>
    refine aG.bnd (l9 arr) ?_;rintro R2 h2 d2 _ ⟨rfl,Ag⟩
    cases d2 with
    |array n e=>exact aG.ret (.int _ _)
    |_=>exact .inl bN
   |slice e=>cases hv with
    |slice _=>exact aG.ret (.int _ _)
    |_=>exact .inl bN
   |chan k e=>cases hv with
    |chan hm=>cases hm with
     |none=>exact aG.ret (.int _ _)
     |some hm=>
      refine aG.bnd (zuG (hm.imp (h1.le _ _) id)) ?_;intro R2 h2 o o' ho
      cases ho with
      |chan he=>exact aG.ret (.int _ _)
      |_=>exact .inl bN
    |_=>exact .inl bN
   |_=>exact .inl bN
variable {ts:Array aM}
def zEL (t:aM)(ht:∀mt k e,ts[0]? =some mt->P.underlying mt=some (.map k e)->Ly P k)(hR:tZ P K R)(h:bK S K R xs bY):
 aG P S K (VA S K) (J0 ts t xs) R (J0 ts t bY):=by
 unfold J0
 cases e0:ts[0]? with
 |none=>exact .inl bN
 |some mt=>
  have ho:=h.opt 0;have yO:=h.opt 1;generalize xs[0]? =o at ho;generalize bY[0]? =o' at ho;generalize xs[1]? =p at yO;generalize bY[1]? =p' at yO
  cases ho with
  |none=>exact .inl bN
  |some hm=>
   cases yO with
   |none=>exact .inl bN
   |some hk=>
    simp only;refine aG.bnd (l9 mt) ?_;rintro R1 h1 d _ ⟨rfl,hd⟩
    cases d with
    |map kt el=>
     have hK:=ht mt kt el e0 hd;have fin:∀{R2:Pr},aG P S K (VA S K) (pure (.tuple #[])) R2 (pure (.tuple #[])):=aG.ret (VR.tuple' bK.empty)
     cases hm with
     |map hm=>
      cases hm with
      |none=>exact aG.bnd (zfv hK _ _ _) (λ_ _ _ _ _=>fin)
      |some hm=>
       refine aG.bnd (Qx (h1.le _ _ hm)) ?_;intro R2 h2 o o' ho
       cases ho with
       |map he=>
        simp only;rw[he.isEmpty];refine aG.bnd (zfv hK _ _ _) ?_;rintro R3 h3 _ _ rfl;have Xv:=h3.ok (h2.ok (h1.ok hR));have Ic:=((hk.mono h1.le).mono h2.le).mono h3.le;have Ts:=h3.le _ _ (h2.le _ _ (h1.le _ _ hm));refine aG.bnd (znn hK Xv Ic (he.mono h3.le).toList) ?_;intro R4 h4 r r' hr
        cases hr with
        |some hq=>exact aG.bnd (za3 (h4.le _ _ Ts) (.map (((he.mono h3.le).mono h4.le).erase _))) (λ_ _ _ _ _=>fin)
        |none=>exact aG.bnd (za3 (h4.le _ _ Ts) (.map ((he.mono h3.le).mono h4.le))) (λ_ _ _ _ _=>fin)
       |_=>exact .inl (bN.bnd _)
     |_=>exact .inl (bN.bnd _)
    |_=>exact .inl bN
variable {x':aF}
def zwp {x:aF}(h:VR S K R x x'):aG P S K lR (zpy x) R (zpy x'):=by
 cases h with
 |slice _=>exact aG.ret rfl
 |string s=>exact aG.ret rfl
 |_=>exact .inl bN
def zbA (size n:Nat){x:aF}(h:VR S K R x x'):aG P S K (λR a b=>bK S K R a b) (Tn size n x) R (Tn size n x'):=by
 cases h with
 |slice ha=>cases ha with
  |none=>exact aG.ret bK.empty
  |some ha=>exact zhL ha _
 |string s=>
  refine aG.ret ⟨rfl,λi v v' h1 h2=>?_⟩;rw[h1] at h2;injection h2 with e;subst e;rw[yB] at h1
  cases q:(s.extract 0 n).data[i]? with
  |none=>rw[q] at h1;cases h1
  |some b=>rw[q] at h1;cases h1;exact .int _ _
 |_=>exact .inl bN
def zff {z z':Array aF}(h:bK S K R z z')(n:Nat):bK S K R (qD z n) (qD z' n):=by
 refine⟨by simp[qD,h.1],λi v v' h1 h2=>?_⟩;unfold qD at h1 h2;rw[yB] at h1 h2;rw[<-h.1] at h2
 cases q:(Lb (n*z.size))[i]? with
 |none=>rw[q] at h1;cases h1
 |some j=>
  rw[q] at h1 h2;cases h1;cases h2
  cases q1:z[j%z.size]? with
  |none=>
   have q2:=h.none q1;show VR S K R (z[j%z.size]!) (z'[j%z.size]!);rw[getElem!_def,getElem!_def,q1,q2];exact .bool false
  |some u=>
   obtain⟨u',q2,hu⟩:=h.get q1;show VR S K R (z[j%z.size]!) (z'[j%z.size]!);rw[getElem!_def,getElem!_def,q1,q2];exact hu
def zDU {A:Pr->γ->δ->Prop}{F:Bool->cU γ}{F':Bool->cU δ}(o:Option aM)(hi:∀xt d,o=some xt->P.underlying xt=some d->∀k,d≠ .int k)(hF:∀R3,xW P K R R3->aG P S K A (F false) R3 (F' false)):
 aG P S K A (match(generalizing:=false) o with|some xt=>do let l<-underlying xt;let zeros<-pure (match l with| .int k=>true|x=>false);F zeros|none=>do let zeros<-pure false;F zeros) R
  (match(generalizing:=false) o with|some xt=>do let l<-underlying xt;let zeros<-pure (match l with| .int k=>true|x=>false);F' zeros|none=>do let zeros<-pure false;F' zeros):=by
 cases o with
 |none=>
  refine aG.bnd (aG.ret (A:=λ_ a b=>a=false/\b=false) ⟨rfl,rfl⟩) ?_;rintro R3 h3 _ _ ⟨rfl,rfl⟩;exact hF R3 h3
 |some xt=>
  refine aG.bnd (l9 xt) ?_;rintro R3 h3 d _ ⟨rfl,zd3⟩;have e:∀d:Zr,(∀k,d≠ .int k)->(match d with| .int k=>true|x=>false)=false:=by
   intro d h;cases d<;>first|rfl|exact absurd rfl (h _)
  refine aG.bnd (A:=λ_ a b=>a=false/\b=false) (aG.ret ⟨e d (hi xt d rfl zd3),e d (hi xt d rfl zd3)⟩) ?_;rintro R4 h4 _ _ ⟨rfl,rfl⟩;exact hF R4 (h3.trans h4)
def zHg (hz:H6 P S)(t:aM)(hi:∀xt d,ts[1]? =some xt->P.underlying xt=some d->∀k,d≠ .int k)(h:bK S K R xs bY):
 aG P S K (VA S K) (xG ts t xs) R (xG ts t bY):=by
 unfold xG
 cases e0:ts[0]? with
 |none=>exact .inl bN
 |some st=>
  have ho:=h.opt 0;have yO:=h.opt 1;generalize xs[0]? =o at ho;generalize bY[0]? =o' at ho;generalize xs[1]? =p at yO;generalize bY[1]? =p' at yO
  cases ho with
  |none=>exact .inl bN
  |some hs=>
   cases yO with
   |none=>exact .inl bN
   |some hx=>
    rename_i s s' x x';simp only;refine aG.bnd (l9 st) ?_;rintro R1 h1 d _ ⟨rfl,hd⟩
    cases d with
    |slice elem=>
     cases hs with
     |slice hb=>
      rename_i b b' n c;refine aG.bnd (Ar elem) ?_;rintro R2 h2 size _ rfl;have rG:=(hb.mono h1.le).mono h2.le;have Ak:=(hx.mono h1.le).mono h2.le;refine zDU ts[1]? hi ?_;intro R3 h3;simp only[Bool.not_false,if_true,jE,if_false,false_or];refine aG.bnd (zwp (Ak.mono h3.le)) ?_;rintro R4 h4 m _ rfl;have Pv:=(rG.mono h3.le).mono h4.le;have zn5:=(Ak.mono h3.le).mono h4.le;split
      .refine aG.bnd (zbA size m zn5) ?_
       intro R5 h5 w w' hw;have zal:=Pv.mono h5.le
       cases zal with
       |none=>exact aG.ret (.slice .none)
       |some ha=>
        refine aG.bnd (Yx _ _ 0 (ha.add _) hw.toList) ?_;rintro R6 h6 _ _ rfl;exact aG.ret (.slice (.some (ha.mono h6.le)))
      .refine aG.bnd (En elem) ?_
       rintro R5 h5 inf _ ⟨rfl,zMg⟩;split
       .exact .inl (vE.bnd _)
       .refine aG.bnd (En elem) ?_
        rintro R6 h6 zA4 _ ⟨rfl,zvM⟩;have tL:=(Pv.mono h5.le).mono h6.le;have zrT:=(zn5.mono h5.le).mono h6.le;split
        .refine .inl (fC.bnd (fC.then (zAo _ _ _ _ _) λsh=>?_) _)
         split
         .exact fC.then (zzh _) λ_=>lJ
         .exact lJ
        .refine aG.bnd (zgz _) ?_
         rintro R7 h7 nc _ rfl;refine aG.bnd (En elem) ?_;rintro R8 h8 zGT _ ⟨rfl,zA8⟩;refine aG.bnd (zjH _) ?_;rintro R9 h9 _ _ rfl;have xY:=((tL.mono h7.le).mono h8.le).mono h9.le;have zzx:=((zrT.mono h7.le).mono h8.le).mono h9.le;refine aG.bnd (zbA size n (.slice xY)) ?_;intro zE0 G7 o o' ho;refine aG.bnd (zbA size m (zzx.mono G7.le)) ?_;intro zDX Q5 w w' hw;refine aG.bnd (Oj hz elem) ?_;intro zF5 zcE z z' pA;refine aG.bnd (zc4 elem (((ho.mono (Q5.trans zcE).le).append (hw.mono zcE.le)).append (zff pA.cells _))) ?_;intro zF0 zD6 r r' hr;exact aG.ret (.slice (.some hr))
     |_=>exact .inl bN
    |_=>exact .inl bN
def zFT (ts:Array aM)(t:aM)(h:bK S K R xs bY):aG P S K (VA S K) (C7 ts t xs) R (C7 ts t bY):=by
 unfold C7
 cases e0:ts[0]? with
 |none=>exact .inl bN
 |some st=>
  have ho:=h.opt 0;have yO:=h.opt 1;generalize xs[0]? =o at ho;generalize bY[0]? =o' at ho;generalize xs[1]? =p at yO;generalize bY[1]? =p' at yO
  cases ho with
  |none=>exact .inl bN
  |some hs=>
   cases yO with
   |none=>exact .inl bN
   |some hx=>
    simp only;refine aG.bnd (l9 st) ?_;rintro R1 h1 d _ ⟨rfl,hd⟩
    cases d with
    |slice elem=>
     cases hs with
     |slice hb=>
      refine aG.bnd (zwp (hx.mono h1.le)) ?_;rintro R2 h2 m _ rfl;refine aG.bnd (Ar elem) ?_;rintro R3 h3 size _ rfl;refine aG.bnd (zbA size _ (((hx.mono h1.le).mono h2.le).mono h3.le)) ?_;intro R4 h4 w w' hw;have Pv:=(((hb.mono h1.le).mono h2.le).mono h3.le).mono h4.le
      cases Pv with
      |none=>exact aG.ret (.int _ _)
      |some ha=>
       refine aG.bnd (Yx _ _ 0 ha hw.toList) ?_;rintro R6 h6 _ _ rfl;exact aG.ret (.int _ _)
     |_=>exact .inl bN
    |_=>exact .inl bN
def aG.ite {α β:Type}{A:Pr->α->β->Prop}{c:Prop}[Decidable c]{s t:cU α}{s' t':cU β}(h1:c->aG P S K A s R s')(h2:¬c->aG P S K A t R t'):aG P S K A (if c then s else t) R (if c then s' else t'):=by
 by_cases hc:c
 .rw[if_pos hc,if_pos hc];exact h1 hc
 .rw[if_neg hc,if_neg hc];exact h2 hc
variable {xt:aM}{k:Ec}
def zIr {A:Pr->γ->δ->Prop}{F:Bool->cU γ}{F':Bool->cU δ}(hi:P.underlying xt=some (.int k))(hF:∀R3,xW P K R R3->aG P S K A (F true) R3 (F' true)):
 aG P S K A (match(generalizing:=false) (some xt:Option aM) with|some xt=>do let l<-underlying xt;let zeros<-pure (match l with| .int k=>true|x=>false);F zeros|none=>do let zeros<-pure false;F zeros) R
  (match(generalizing:=false) (some xt:Option aM) with|some xt=>do let l<-underlying xt;let zeros<-pure (match l with| .int k=>true|x=>false);F' zeros|none=>do let zeros<-pure false;F' zeros):=by
 refine aG.bnd (l9 xt) ?_;rintro R3 h3 d _ ⟨rfl,zd3⟩;obtain rfl:d=.int k:=cE (zd3.symm.trans hi);refine aG.bnd (A:=λ_ a b=>a=true/\b=true) (aG.ret ⟨rfl,rfl⟩) ?_;rintro R4 h4 _ _ ⟨rfl,rfl⟩;exact hF R4 (h3.trans h4)
def zFv (hz:H6 P S)(t:aM)(e1:ts[1]? =some xt)(hi:P.underlying xt=some (.int k))(h:bK S K R xs bY):
 aG P S K (VA S K) (xG ts t xs) R (xG ts t bY):=by
 unfold xG
 cases e0:ts[0]? with
 |none=>exact .inl bN
 |some st=>
  have ho:=h.opt 0;have yO:=h.opt 1;generalize xs[0]? =o at ho;generalize bY[0]? =o' at ho;generalize xs[1]? =p at yO;generalize bY[1]? =p' at yO
  cases ho with
  |none=>exact .inl bN
  |some hs=>
   cases yO with
   |none=>exact .inl bN
   |some hx=>
    rename_i s s' x x';simp only;refine aG.bnd (l9 st) ?_;rintro R1 h1 d _ ⟨rfl,hd⟩
    cases d with
    |slice elem=>
     cases hs with
     |slice hb=>
      rename_i b b' n c;refine aG.bnd (Ar elem) ?_;rintro R2 h2 size _ rfl;have rG:=(hb.mono h1.le).mono h2.le;have Ak:=(hx.mono h1.le).mono h2.le;rw[e1];refine zIr hi ?_;intro R3 h3;rw[if_pos rfl,if_pos rfl];refine aG.bnd (Xx (Ak.mono h3.le)) ?_;rintro R4 h4 l0 _ rfl;refine aG.ite (λ_=>.inl (fC.bnd vE _)) (λ_=>?_);refine aG.bnd (En elem) ?_;rintro zKq zCA zM7 _ ⟨rfl,eV⟩;refine aG.ite (λ_=>.inl (fC.then (zig _) λ_=>fC.bnd vE _)) (λ_=>?_);refine aG.bnd (A:=lR) (aG.ret rfl) ?_;rintro zJY zEW m _ rfl;have Pv:=(((rG.mono h3.le).mono h4.le).mono zCA.le).mono zEW.le;have new:∀{R5:Pr},aG P S K (λR a b=>bK S K R a b) (if(!true)=true then Tn size m x else if m*size=0 then pure #[] else do pure (qD (<-zeroValue elem).cells m)) R5 (if(!true)=true then Tn size m x' else if m*size=0 then pure #[] else do pure (qD (<-zeroValue elem).cells m)):=by
       intro R5;refine aG.ite (λh=>by cases h) (λ_=>?_);refine aG.ite (λ_=>aG.ret bK.empty) (λ_=>?_);exact aG.bnd (Oj hz elem) λR6 h6 z z' pA=>aG.ret (zff pA.cells _)
      refine aG.ite (λ_=>?_) (λ_=>?_)
      .refine aG.bnd new ?_
       intro R5 h5 w w' hw;have zal:=Pv.mono h5.le
       cases zal with
       |none=>exact aG.ret (.slice .none)
       |some ha=>
        refine aG.bnd (Yx _ _ 0 (ha.add _) hw.toList) ?_;rintro R6 h6 _ _ rfl;exact aG.ret (.slice (.some (ha.mono h6.le)))
      .refine aG.bnd (En elem) ?_
       rintro zMb zGD zKE _ ⟨rfl,zU⟩;refine aG.ite (λ_=>.inl (fC.bnd vE _)) (λ_=>?_);refine aG.bnd (En elem) ?_;rintro R6 h6 zA4 _ ⟨rfl,zvM⟩;have tL:=(Pv.mono zGD.le).mono h6.le;refine aG.ite (λ_=>.inl (fC.bnd (by rw[if_pos rfl];exact vE) _)) (λ_=>?_);refine aG.bnd (zgz _) ?_;rintro R7 h7 nc _ rfl;refine aG.bnd (En elem) ?_;rintro R8 h8 zGT _ ⟨rfl,zA8⟩;refine aG.bnd (zjH _) ?_;rintro R9 h9 _ _ rfl;have xY:=((tL.mono h7.le).mono h8.le).mono h9.le;refine aG.bnd (zbA size n (.slice xY)) ?_;intro zE0 G7 o o' ho;refine aG.bnd new ?_;intro zDX Q5 w w' hw;refine aG.bnd (Oj hz elem) ?_;intro zF5 zcE z z' pA;refine aG.bnd (zc4 elem (((ho.mono (Q5.trans zcE).le).append (hw.mono zcE.le)).append (zff pA.cells _))) ?_;intro zF0 zD6 r r' hr;exact aG.ret (.slice (.some hr))
     |_=>exact .inl bN
    |_=>exact .inl bN
def zEt (hz:H6 P S)(ts:Array aM)(t:aM)(h:bK S K R xs bY):aG P S K (VA S K) (Si ts t xs) R (Si ts t bY):=by
 unfold Si
 cases e0:ts[0]? with
 |none=>exact .inl bN
 |some st=>
  have ho:=h.opt 0;generalize xs[0]? =o at ho;generalize bY[0]? =o' at ho;have fin:∀{R2:Pr},aG P S K (VA S K) (pure (.tuple #[])) R2 (pure (.tuple #[])):=aG.ret (VR.tuple' bK.empty)
  cases ho with
  |none=>exact .inl bN
  |some hs=>
   simp only;refine aG.bnd (l9 st) ?_;rintro R1 h1 d _ ⟨rfl,hd⟩
   cases hs with
   |map hm=>
    cases hm with
    |none=>cases d<;>exact fin
    |some hm=>
     cases d
     all_goals
      refine aG.bnd (Qx (h1.le _ _ hm)) ?_;intro R2 h2 o o' ho
      cases ho with
      |map he=>exact aG.bnd (za3 (h2.le _ _ (h1.le _ _ hm)) (.map ⟨rfl,λi e e' h=>by simp at h⟩)) (λ_ _ _ _ _=>fin)
      |_=>exact .inl (by first|exact bN|exact bN.bnd _)
   |slice hb=>
    rename_i b b' n c
    cases hb with
    |none=>cases d<;>exact fin
    |some ha=>
     cases n with
     |zero=>cases d<;>exact fin
     |succ n=>
      cases d with
      |slice elem=>
       refine aG.bnd (Oj hz elem) ?_;intro R2 h2 z z' pA;refine aG.bnd (Yx _ _ 0 ((ha.mono h1.le).mono h2.le) (zff pA.cells _).toList) ?_;rintro R6 h6 _ _ rfl;exact fin
      |_=>exact .inl (bN.bnd _)
   |_=>cases d<;>exact .inl (bN.bnd _)
end
section
variable {P:dM}{S:aP->Prop}{K:Pr}{α β γ δ:Type}{R:Pr}
def zzS (t:aM){v v':aF}(h:VR S K R v v'):aG P S K (VA S K) (zi6 t v) R (zi6 t v'):=by
 unfold zi6;refine aG.bnd (l9 t) ?_;rintro R1 h1 d _ ⟨rfl,hd⟩
 cases d with
 |interface _=>exact .inl bN
 |_=>exact aG.ret (.iface (h.mono h1.le))
def zxl {z z':Array aF}(h:bK S K R z z')(n:Nat):bK S K R ((Lb n).map (z[·%z.size]!)) ((Lb n).map (z'[·%z'.size]!)):=by
 refine⟨aO,λi v v' h1 h2=>?_⟩;rw[yB] at h1 h2;rw[<-h.1] at h2
 cases q:(Lb n)[i]? with
 |none=>rw[q] at h1;cases h1
 |some j=>
  rw[q] at h1 h2;cases h1;cases h2
  cases q1:z[j%z.size]? with
  |none=>
   have q2:=h.none q1;show VR S K R (z[j%z.size]!) (z'[j%z.size]!);rw[getElem!_def,getElem!_def,q1,q2];exact .bool false
  |some u=>
   obtain⟨u',q2,hu⟩:=h.get q1;show VR S K R (z[j%z.size]!) (z'[j%z.size]!);rw[getElem!_def,getElem!_def,q1,q2];exact hu
def zxO (hz:H6 P S)(n:Nat)(e:aM){F F':Array aF->cU aF}(hF:∀R1,xW P K R R1->∀z z',bK S K R1 z z'->aG P S K (VA S K) (F z) R1 (F' z')):
 aG P S K (VA S K) (if n=0 then do let z<-pure #[];F z else do let l<-zeroValue e;let z<-pure l.cells;F z) R (if n=0 then do let z<-pure #[];F' z else do let l<-zeroValue e;let z<-pure l.cells;F' z):=by
 split
 .exact aG.bnd (aG.ret (A:=λR a b=>bK S K R a b) bK.empty) hF
 .refine aG.bnd (Oj hz e) ?_
  intro R1 h1 z z' pA;exact aG.bnd (aG.ret (A:=λR a b=>bK S K R a b) pA.cells) (λR2 h2 a b qK=>hF R2 (h1.trans h2) a b qK)
def zEB (hz:H6 P S)(t:aM){l l' c c':aF}(hl:VR S K R l l')(hc:VR S K R c c'):aG P S K (VA S K) (zfY t l c) R (zfY t l' c'):=by
 unfold zfY;refine aG.bnd (l9 t) ?_;rintro R1 h1 d _ ⟨rfl,hd⟩
 cases d with
 |slice elem=>
  refine aG.bnd (Xx (hl.mono h1.le)) ?_;rintro R2 h2 ln _ rfl;refine aG.bnd (Xx ((hc.mono h1.le).mono h2.le)) ?_;rintro R3 h3 cp _ rfl;refine aG.bnd (En elem) ?_;rintro R4 h4 inf _ ⟨rfl,hi⟩;simp only;split
  .left
   split
   .exact vE.bnd _
   .split
    .exact vE.bnd _
    .exact fC.then (zig _) λ_=>vE.bnd _
  .refine aG.bnd (zjH _) ?_
   rintro R5 h5 _ _ rfl;refine aG.bnd (Ar elem) ?_;rintro R6 h6 sz _ rfl;refine zxO hz _ elem ?_;intro R7 h7 z z' pA;refine aG.bnd (zc4 elem (zxl pA _)) ?_;intro R8 h8 r r' hr;exact aG.ret (.slice (.some hr))
 |_=>exact .inl bN
inductive Mh (S:aP->Prop)(K R:Pr):List (Nat×aF)->List (Nat×aF)->Prop
 |nil:Mh S K R [] []
 |cons {i:Nat} {v v':aF} {l l':List (Nat×aF)}:VR S K R v v'->Mh S K R l l'->Mh S K R ((i,v)::l) ((i,v')::l')
def Mh.mono {R':Pr}(hR:R.le R'){l l':List (Nat×aF)}(h:Mh S K R l l'):Mh S K R' l l':=by
 induction h with
 |nil=>exact .nil
 |cons a _ ih=>exact .cons (a.mono hR) ih
inductive OarR (S:aP->Prop)(K R:Pr):Option (Array aF)->Option (Array aF)->Prop
 |none:OarR S K R none none
 |some {c c':Array aF}:bK S K R c c'->OarR S K R (some c) (some c')
def zyj (off:Nat):∀(l l':List aF) (j:Nat) {c c':Array aF},xV S K R l l'->bK S K R c c'->
 bK S K R ((l.zipIdx j).foldl (λcs (x:aF×Nat)=>cs.setIfInBounds (off+x.2) x.1) c) ((l'.zipIdx j).foldl (λcs (x:aF×Nat)=>cs.setIfInBounds (off+x.2) x.1) c')
 |[],[],j,c,c',_,h=>h
 |[],_::_,_,_,_,h,_=>by have:=h.1;simp at this
 |_::_,[],_,_,_,h,_=>by have:=h.1;simp at this
 |x::l,x'::l',j,c,c',h,hc=>by
  obtain⟨a,b⟩:=h.cons;simp only[List.zipIdx_cons,List.foldl_cons];exact zyj off l l' (j+1) b (hc.set _ a)
def zmG (place:Nat->Option (Nat×Nat)):∀(l l':List (Nat×aF)) {c c':Array aF},Mh S K R l l'->bK S K R c c'->OarR S K R (Nn place c l) (Nn place c' l')
 |[],_,c,c',.nil,h=>.some h
 |(i,v)::l,(_,v')::l',c,c',.cons a b,h=>by
  unfold Nn
  cases place i with
  |none=>exact .none
  |some os=>
   obtain⟨off,size⟩:=os;have e1:=a.cells.1;have e2:=h.1;simp only;rw[e1,e2];split
   .exact .none
   .refine zmG place l l' b ?_
    have:=zyj off v.cells.toList v'.cells.toList 0 a.cells.toList h;rw[<-zwt,<-zwt];simpa using this
variable {ps Uc:Array (Nat×aF)}
def zEf (hz:H6 P S)(t:aM)(n:Nat)(h:Mh S K R ps.toList Uc.toList):aG P S K (VA S K) (zic t n ps) R (zic t n Uc):=by
 unfold zic;refine aG.bnd (l9 t) ?_;rintro R1 h1 d _ ⟨rfl,hd⟩
 cases d with
 |slice elem=>
  refine aG.bnd (Ar elem) ?_;rintro R2 h2 size _ rfl;simp only;split
  .exact .inl (fC.bnd lJ _)
  .refine zxO hz _ elem ?_
   intro R3 h3 z z' pA;have hf:=zmG (λi=>some (i*size,size)) _ _ (((h.mono h1.le).mono h2.le).mono h3.le) (zxl pA (n*size));revert hf;generalize Nn _ _ ps.toList=o;generalize Nn _ _ Uc.toList=o';intro hf
   cases hf with
   |none=>exact .inl bN
   |some hc=>
    refine aG.bnd (zc4 elem hc) ?_;intro R8 h8 r r' hr;exact aG.ret (.slice (.some hr))
 |_=>exact .inl bN
def zwk {ι κ:Type}{f:ι->cU κ}(hf:∀x (R:Pr),aG P S K lR (f x) R (f x)):∀(l:List ι) {R:Pr},aG P S K lR (l.mapM f) R (l.mapM f)
 |[],R=>by rw[List.mapM_nil];exact aG.ret rfl
 |x::l,R=>by
  rw[List.mapM_cons];refine aG.bnd (hf x R) ?_;rintro R1 h1 a _ rfl;refine aG.bnd (zwk hf l) ?_;rintro R2 h2 b _ rfl;exact aG.ret rfl
def zCS (hz:H6 P S)(t:aM)(h:Mh S K R ps.toList Uc.toList):aG P S K (VA S K) (ziT t ps) R (ziT t Uc):=by
 have fin:∀{R3:Pr} (place:Nat->Option (Nat×Nat)) (Un:String) {z z':Array aF},R.le R3->bK S K R3 z z'->aG P S K (VA S K) (match Nn place z ps.toList with|some cells=>pure (.agg cells)|_=>stuck Un) R3 (match Nn place z' Uc.toList with|some cells=>pure (.agg cells)|_=>stuck Un):=by
  intro R3 place Un z z' hle pA;have hf:=zmG place _ _ (h.mono hle) pA;revert hf;generalize Nn _ _ ps.toList=o;generalize Nn _ _ Uc.toList=o';intro hf
  cases hf with
  |none=>exact .inl bN
  |some hc=>exact aG.ret (VR.agg' hc)
 unfold ziT;refine aG.bnd (Oj hz t) ?_;intro R1 h1 z z' pA;refine aG.bnd (l9 t) ?_;rintro R2 h2 d _ ⟨rfl,hd⟩
 cases d with
 |struct fields=>
  refine aG.bnd (A:=lR) ?_ ?_
  .rw[Array.mapM_eq_mapM_toList,map_eq_pure_bind]
   refine aG.bnd (zwk (λf R=>aG.bnd (Ar _) (λR1 h1 a b e=>by cases e;exact aG.ret rfl)) fields.toList) ?_;rintro R3 h3 l _ rfl;exact aG.ret rfl
  .rintro R3 h3 places _ rfl
   exact fin _ _ (h1.trans (h2.trans h3)).le ((pA.cells.mono h2.le).mono h3.le)
 |array n elem=>
  refine aG.bnd (Ar elem) ?_;rintro R3 h3 size _ rfl;exact fin _ _ (h1.trans (h2.trans h3)).le ((pA.cells.mono h2.le).mono h3.le)
 |_=>exact .inl bN
end
section
variable {P:dM}{S:aP->Prop}{K:Pr}{R:Pr}
def zx2 (op:Mm)(k:Ec)(a b:Int):aG P S K (VA S K) (zty op k a b) R (zty op k a b):=by
 cases op<;>first|exact aG.ret (.int _ _)|exact .inl bN
def zE5 (op:Mm)(k:Ec)(a b:Int):aG P S K (VA S K) (zhT op k a b) R (zhT op k a b):=by
 unfold zhT;split
 .exact .inl vE
 .cases op<;>first|exact aG.ret (.int _ _)|exact .inl bN
def zs0 (op:Mm)(k:Ec)(a b:Int):aG P S K (VA S K) (zuC op k a b) R (zuC op k a b):=by
 cases op<;>first|exact aG.ret (.int _ _)|exact .inl bN
def zwA (op:Mm)(k:Ec)(a:Int)(k':Ec)(b:Int):aG P S K (VA S K) (zmj op k a k' b) R (zmj op k a k' b):=by
 unfold zmj;split
 .exact .inl vE
 .cases op<;>first|exact aG.ret (.int _ _)|exact .inl bN
def zio (op:Mm)(a b:Int):aG P S K (VA S K) (Op.intCmp op a b) R (Op.intCmp op a b):=by
 cases op<;>first|exact aG.ret (.bool _)|exact .inl bN
def zmi (op:Mm)(a b:ByteArray):aG P S K (VA S K) (zkm op a b) R (zkm op a b):=by
 unfold zkm;cases op<;>first|exact aG.ret (.bool _)|exact .inl bN|skip
 simp only;split
 .exact .inl lJ
 .exact aG.ret (.string _)
variable {x x':aF}
def zFR (op:UnOp)(h:VR S K R x x'):aG P S K (VA S K) (Op.unary op x) R (Op.unary op x'):=by
 cases h with
 |int k n=>cases op<;>first|exact zx2 .sub k 0 n|exact zs0 .xor k _ n|exact .inl bN
 |bool b=>cases op<;>first|exact aG.ret (.bool _)|exact .inl bN
 |pointer h=>cases h<;>cases op<;>first|exact .inl lJ|exact .inl bN
 |_=>cases op<;>exact .inl bN
def dM.cellOfByte_g (P:dM):∀(d:Nat) (t:aM) (o:Nat),cellOfByte P.g d t o=cellOfByte P.c d t o:=by
 intro d
 induction d with
 |zero=>intro t o;rfl
 |succ d ih=>
  intro t o;unfold cellOfByte;rw[P.underlying_g];simp only[ih,P.cells_g,P.bytes_g];rfl
def dM.cellAtBytes_g (P:dM)(d:Nat)(e:aM)(c o:Nat)(b:Int):cellAtBytes P.g d e c o b=cellAtBytes P.c d e c o b:=by
 unfold cellAtBytes;simp only[P.cells_g,P.bytes_g,P.byteOfCell_g,P.cellOfByte_g];rfl
variable {y y':aF}
def zt4 (ts:Array aM)(t:aM)(hx:VR S K R x x')(hy:VR S K R y y'):aG P S K (λR v v'=>∃a a',v=.pointer a/\v'=.pointer a'/\wK R a a') (M0 ts t #[x,y]) R (M0 ts t #[x',y']):=by
 unfold M0
 cases hx with
 |pointer hp=>
  refine aG.bnd (Xx hy) ?_;rintro R1 h1 n _ rfl;by_cases hn:n=0
  .simp only[if_pos hn]
   cases hp with
   |none=>exact .inl lJ
   |some ha=>
    cases ha with
    |mk hr=>
     refine aG.bnd (zsp (h1.le _ _ hr)) ?_;rintro R2 h2 _ _ ⟨rfl,rfl⟩;exact aG.ret ⟨_,_,rfl,rfl,.some (.mk (h2.le _ _ (h1.le _ _ hr)))⟩
  .simp only[if_neg hn]
   by_cases h0:n<0
   .simp only[if_pos h0]
    exact .inl (fC.bnd lJ _)
   .simp only[if_neg h0]
    cases hp with
    |none=>exact .inl lJ
    |some ha=>
     cases ha with
     |mk hr=>
      refine aG.bnd (zaX (h1.le _ _ hr)) ?_;rintro R2 h2 x _ rfl
      cases x with
      |none=>exact .inl lJ
      |some x=>
       obtain⟨e,n⟩:=x;refine aG.bnd Rb ?_;rintro R3 h3 p q ⟨rfl,rfl⟩;simp only[P.cells_g,P.depth_g,P.cellAtBytes_g];split
       .exact aG.ret ⟨_,_,rfl,rfl,.some (.mk (h3.le _ _ (h2.le _ _ (h1.le _ _ hr))))⟩
       .exact .inl lJ
 |_=>exact .inl bN
def zcw (ts:Array aM)(t:aM)(hx:VR S K R x x')(hy:VR S K R y y'):aG P S K (VA S K) (M0 ts t #[x,y]) R (M0 ts t #[x',y']):=
 (zt4 ts t hx hy).mono λR' _ a b h=>by
  obtain⟨p,p',rfl,rfl,h⟩:=h;exact .pointer h
variable {a':bL}
def zEM {a:bL}(h:fX R a a')(l:Bool):aG P S K (VA S K) (asNumber a l) R (asNumber a' l):=by
 unfold asNumber;refine aG.bnd (zhj (.number h)) ?_;rintro R1 h1 n n' hn;exact aG.ret (.pointer (.some (.mk hn)))
def zFV {a:bL}(h:fX R a a'):aG P S K (λR x y=>fX R x.1 y.1/\x.2=y.2) (behindNumber a) R (behindNumber a'):=by
 have h0:=h
 cases h with
 |mk h=>
  unfold behindNumber;refine aG.bnd (zlL h) ?_;rintro R1 h1 x y (⟨rfl,rfl⟩|⟨p,p',l,rfl,rfl,hp⟩)
  .exact aG.ret ⟨h0.mono h1.le,rfl⟩
  .exact aG.ret ⟨hp,rfl⟩
def ziy (t:aM)(hx:VR S K R x x')(hy:VR S K R y y'):aG P S K (VA S K) (movedNumber t x y) R (movedNumber t x' y'):=by
 unfold movedNumber;refine aG.bnd (l9 t) ?_;rintro R1 h1 d _ ⟨rfl,_⟩
 have k:aG P S K (VA S K) (do
  let .pointer (some n):=x|M0 #[] t #[x,y]
  let(a,lost)<-behindNumber n
  match<-M0 #[] t #[.pointer (some a),y] with
  | .pointer (some b)=>asNumber b lost
  |v=>pure v) R1 (do
  let .pointer (some n):=x'|M0 #[] t #[x',y']
  let(a,lost)<-behindNumber n
  match<-M0 #[] t #[.pointer (some a),y'] with
  | .pointer (some b)=>asNumber b lost
  |v=>pure v):=by
  have D5:=hx.mono h1.le;have Qb:=hy.mono h1.le
  cases hx with
  |pointer hp=>
   cases hp with
   |none=>exact zcw _ _ D5 Qb
   |some ha=>
    refine aG.bnd (zFV (ha.mono h1.le)) ?_;rintro R2 h2 ⟨a,l⟩ ⟨a',l'⟩ ⟨h3,h4⟩;simp only at h3 h4;subst h4;refine aG.bnd (zt4 _ _ (.pointer (.some h3)) (Qb.mono h2.le)) ?_;rintro R3 h5 v v' ⟨p,p',rfl,rfl,hb⟩
    cases hb with
    |none=>exact aG.ret (.pointer .none)
    |some hb=>exact zEM hb _
  |junk _=>exact .inl bN
  |_=>exact zcw _ _ D5 Qb
 cases d<;>first|exact k|exact .inl lJ|exact .inl (fC.bnd lJ _)
def zCg (t:aM)(hx:VR S K R x x')(hy:VR S K R y y'):aG P S K (VA S K) (movedPointer t x y) R (movedPointer t x' y'):=by
 unfold movedPointer;have tE:=hx
 cases hx with
 |pointer hp=>
  cases hp with
  |none=>exact zcw _ _ tE hy
  |some ha=>
   have Ou:=ha
   cases ha with
   |mk hr=>
    refine aG.bnd (zlL hr) ?_;rintro R1 h1 x y (⟨rfl,rfl⟩|⟨p,p',l,rfl,rfl,hp⟩)
    .exact zcw #[] t (tE.mono h1.le) (hy.mono h1.le)
    .exact .inl lJ
 |_=>exact zcw _ _ tE hy
end
section
variable {P:dM}{S:aP->Prop}{K:Pr}{R:Pr}
variable {a a' b b':bL}
def ztY (hR:tZ P K R)(ha:fX R a a')(hb:fX R b b'):aG P S K lR (ziR a b) R (ziR a' b'):=by
 unfold ziR;refine aG.bnd zje ?_;rintro R1 _ p q ⟨rfl,rfl,rfl⟩;have e1:=fX.block_eq hR ha hb;have e2:=fX.low hR ha;have e3:decide (a.block>=P.globals.size)=decide (a'.block>=P.globals.size):=by
  have:=decide_eq_decide.1 e2;exact decide_eq_decide.2 aC
 have hc:(a.block !=b.block||decide (a.block>=P.g.globals.size))=(a'.block !=b'.block||decide (a'.block>=P.c.globals.size)):=by
  rw[P.globals_g];show(!(a.block==b.block)||_)=(!(a'.block==b'.block)||_);rw[e1];congr 1
 by_cases h:(a.block !=b.block||decide (a.block>=P.g.globals.size))=true
 .simp only[if_pos h]
  exact .inl (fC.bnd lJ _)
 .have h':¬(a'.block !=b'.block||decide (a'.block>=P.c.globals.size))=true:=by rw[<-hc];exact h
  simp only[if_neg h,if_neg h'];refine aG.bnd (Tw ha) ?_;rintro R4 h4 m _ rfl;refine aG.bnd (Tw (hb.mono h4.le)) ?_;rintro R5 h5 m' _ rfl;exact aG.ret rfl
def zJa (hR:tZ P K R)(k:Ec)(ha:fX R a a')(hb:fX R b b'):aG P S K (VA S K) (znp k a b) R (znp k a' b'):=by
 unfold znp;refine aG.bnd (ztY hR ha hb) ?_;rintro R1 _ ⟨x,y⟩ _ rfl;exact aG.ret (.int _ _)
def zzt (hR:tZ P K R)(op:Mm)(ha:fX R a a')(hb:fX R b b'):aG P S K (VA S K) (ziV op a b) R (ziV op a' b'):=by
 unfold ziV;refine aG.bnd (ztY hR ha hb) ?_;rintro R1 _ ⟨x,y⟩ _ rfl;cases op<;>first|exact aG.ret (.bool _)|exact .inl lJ
def zpI (k:Ec)(ha:fX R a a')(n:Int):aG P S K (VA S K) (zlt k a n) R (zlt k a' n):=by
 unfold zlt;have Ou:=ha
 cases ha with
 |mk hr=>
  refine aG.bnd (zaX hr) ?_;rintro R1 h1 x _ rfl
  cases x with
  |none=>exact .inl lJ
  |some x=>
   obtain⟨e,c⟩:=x;refine aG.bnd (En e) ?_;rintro R2 h2 i _ ⟨rfl,_⟩;simp only;split
   .exact .inl (fC.bnd lJ _)
   .refine aG.bnd (Tw (Ou.mono (h1.trans h2).le)) ?_
    rintro R3 h3 m _ rfl;exact aG.ret (.int _ _)
def zCP (op:Mm)(t:aM){x y:aF}(ho:op≠ .eql/\op≠ .neq)(hx:∀k n,x≠ .int k n)(hs:∀s,x≠ .string s)(hp:∀a,x≠ .pointer a)(hf:∀k n,x≠ .float k n)(hc:∀k n m,x≠ .complex k n m):fC P (binOp op t x y):=by
 unfold binOp;split<;>first|exact bN|exact lJ|(exfalso;first|exact hx _ _ rfl|exact hs _ rfl|exact hp _ rfl|exact hf _ _ rfl|exact hc _ _ _ rfl|exact ho.1 rfl|exact ho.2 rfl)
def zyH (op:Mm)(t:aM)(ho:op≠ .eql/\op≠ .neq)(hR:tZ P K R){x x' y y':aF}(hx:VR S K R x x')(hy:VR S K R y y'):
 aG P S K (VA S K) (binOp op t x y) R (binOp op t x' y'):=by
 have tE:=hx;have Tr:=hy
 cases hx with
 |int k a=>
  cases hy with
  |int k' b=>
   by_cases hk:k=k'
   .subst hk
    cases op<;>simp only[binOp,ne_eq,not_true_eq_false,if_false]<;>first|exact zx2 _ _ _ _|exact zE5 _ _ _ _|exact zs0 _ _ _ _|exact zwA _ _ _ _ _|exact zio _ _ _
   .cases op<;>simp only[binOp,ne_eq,hk,not_false_eq_true,if_true]<;>first|exact zwA _ _ _ _ _|exact .inl bN
  |pointer hp=>
   cases op<;>first|exact absurd rfl ho.1|exact absurd rfl ho.2|exact ziy t Tr tE|skip
   all_goals(cases hp<;>first|exact .inl lJ|skip)
   rename_i hb;refine aG.bnd (zn3 hb) ?_;intro R1 h1 u v zlP;exact zpI _ zlP _
  |_=>cases op<;>first|exact absurd rfl ho.1|exact absurd rfl ho.2|exact .inl bN
 |string a=>
  cases hy with
  |string b=>cases op<;>simp only[binOp]<;>exact zmi _ _ _
  |pointer hp=>cases op<;>first|exact absurd rfl ho.1|exact absurd rfl ho.2|exact .inl lJ
  |_=>cases op<;>first|exact absurd rfl ho.1|exact absurd rfl ho.2|exact .inl bN
 |pointer hp=>
  cases hy with
  |int k n=>
   have e:∀m,VR S K R (.int k m) (.int k m):=λm=>.int k m;cases op<;>first|exact absurd rfl ho.1|exact absurd rfl ho.2|exact ziy t tE (e _)|skip
   all_goals first|(cases hp<;>first|exact .inl lJ|(rename_i hb;refine aG.bnd (zn3 hb) ?_;intro R1 h1 u v zlP;exact zpI _ zlP _))|skip
   all_goals
    simp only[binOp];refine aG.bnd (l9 t) ?_;rintro R1 h1 d _ ⟨rfl,_⟩;cases d<;>first|exact zCg t (tE.mono h1.le) (Tr.mono h1.le)|exact ziy t (tE.mono h1.le) (Tr.mono h1.le)
  |pointer hq=>
   cases hp with
   |none=>cases hq<;>cases op<;>first|exact absurd rfl ho.1|exact absurd rfl ho.2|exact .inl lJ
   |some ha=>
    cases hq with
    |none=>cases op<;>first|exact absurd rfl ho.1|exact absurd rfl ho.2|exact .inl lJ
    |some hb=>
     have two:∀{F F':bL->bL->cU aF},(∀u u' v v',fX R u u'->fX R v v'->aG P S K (VA S K) (F u v) R (F' u' v'))->∀{a1 ziY a2 zjz},fX R a1 ziY->fX R a2 zjz->
      aG P S K (VA S K) (do F (<-behindNumber a1).1 (<-behindNumber a2).1) R (do F' (<-behindNumber ziY).1 (<-behindNumber zjz).1):=by
      intro F F' hF a1 ziY a2 zjz h1 h2;refine aG.bnd (zel h1) ?_;rintro R1 _ u u' ⟨rfl,hu⟩;refine aG.bnd (zel h2) ?_;rintro R2 _ v v' ⟨rfl,hv⟩;exact hF _ _ _ _ hu hv
     cases op<;>first|exact absurd rfl ho.1|exact absurd rfl ho.2|exact .inl lJ|exact two (λu u' v v' h1 h2=>zJa hR _ h1 h2) ha hb|exact two (λu u' v v' h1 h2=>zzt hR _ h1 h2) ha hb
  |_=>cases op<;>first|exact absurd rfl ho.1|exact absurd rfl ho.2|exact .inl lJ|(cases hp<;>exact .inl lJ)
 |_=>exact .inl (zCP op t ho aO aO aO aO aO)
end
def Ends {α:Type}(r:Result α):Prop:=(∃x w',r=.ok x w')\/∃h w',r=.halt h w'/\Xd h
def Ends.halt {h:Halt}(ht:Xd h):Ends (.halt h w:Result α):=.inr ⟨h,w,rfl,ht⟩
def aG.tame {A:Pr->α->β->Prop}{G:Gp}(hG:G=P.gp)(s:cU α):
 ∀{R:Pr} {w W:aE} {s':cU β},aG P S K A s R s'->cV S K R G St w W->Tp w W->Ends (s.run P.g w):=by
 induction s with
 |pure a=>
  rintro R w W s' (hn|⟨b,rfl,h⟩) hw ht
  .exact .inr (hn _ hw.np)
  exact .inl ⟨a,w,rfl⟩
 |load m a k ih=>
  rintro R w W s' (hn|⟨rfl,a',k',rfl,ha,hk⟩) hw ht
  .exact .inr (hn _ hw.np)
  obtain⟨qK⟩:=ha;rename_i b b' o sp;obtain⟨ob,xM,h1,h2,h3⟩:=hw.cont b b' qK
  cases h3 with
  |cells hc hz=>
   rename_i c c' T fz Iz
   cases sp with
   |some sp=>simp only[bD,lI,h1,yV,rD];exact .halt trivial
   |none=>
    cases hv:c[o]? with
    |none=>simp only[bD,lI,h1,yV,rD,hv];exact .halt trivial
    |some v=>
     obtain⟨v',Ke,qS⟩:=hc.get hv;have e1:w.cell? ⟨b,o,none⟩=some v:=by simp[lI,h1,hv]
     rw[bD,e1];exact ih v (hk v v' qS) hw ht
  |_=>simp only[bD,lI,h1,yV,rD];exact .halt trivial
 |store m a v k ih=>
  rintro R w W s' (hn|⟨rfl,a',v',k',rfl,ha,hv,hk⟩) hw ht
  .exact .inr (hn _ hw.np)
  obtain⟨qK⟩:=ha;rename_i b b' o sp;by_cases Ms:∃cs,v=.agg cs
  .obtain⟨cs,rfl⟩:=Ms;rw[bD];exact .halt trivial
  by_cases Bp:∃cs,v=.tuple cs
  .obtain⟨cs,rfl⟩:=Bp;rw[bD];exact .halt trivial
  rw[bD]
  rotate_left
  .exact λcs e=>Ms ⟨cs,e⟩
  .exact λcs e=>Bp ⟨cs,e⟩
  obtain⟨ob,xM,h1,h2,h3⟩:=hw.cont b b' qK
  cases h3 with
  |cells hc hz=>
   rename_i c c' T fz Iz
   cases sp with
   |some sp=>simp only[lI,h1,Dh,rD];exact .halt trivial
   |none=>
    cases fK:c[o]? with
    |none=>simp only[lI,h1,Dh,rD,fK];exact .halt trivial
    |some v0=>
     have e1:w.cell? ⟨b,o,none⟩=some v0:=by simp[lI,h1,fK]
     rw[e1];simp only
     cases mY:w.frozen? ⟨b,o,none⟩ with
     |true=>exact .halt trivial
     |false=>
      simp only[jE,if_false];have Zq:¬Lr fz o:=by
       intro⟨z1,z2⟩;simp[Ri,h1,z1,z2] at mY
      have zI:¬St b:=by
       intro hs;obtain⟨_,c2,T2,hi,g1,g2⟩:=hw.st b hs;rw[h1] at g1;injection g1 with g1;injection g1 with g1 _ g3;subst g1 g3;exact Zq ⟨jT _,lD (dP.1 fK).1 g2⟩
      rw[Z0 h1];have st:=nA.upd hw qK zI (oO.cells (T:=T) (hc.set o hv) hz);exact ih hk st.rel (ht.step st)
  |_=>simp only[lI,h1,Dh,rD];exact .halt trivial
 |new o k ih=>
  rintro R w W s' (hn|⟨o',k',rfl,ho,hk⟩) hw ht
  .exact .inr (hn _ hw.np)
  rw[bD];have st:=nA.push hw ho;exact ih _ (hk _ _ ⟨λb hb=>absurd (hw.lt _ _ hb).1 (Cr _),λa ha=>absurd (hw.lt _ _ ha).2 (Cr _),by subst hG;exact hw.gle⟩) st.rel (ht.step st)
 |shape r k ih=>
  rintro R w W s' (hn|⟨r',k',rfl,qM,hk⟩) hw ht
  .exact .inr (hn _ hw.np)
  rw[bD];exact ih _ (hk _) hw ht
 |freeze a n k ih=>
  rintro R w W s' (hn|h) hw ht
  .exact .inr (hn _ hw.np)
  .exact h.elim
 |frozen a k ih=>
  rintro R w W s' (hn|⟨r',k',rfl,hk⟩) hw ht
  .exact .inr (hn _ hw.np)
  rw[bD];exact ih _ (hk _ true) hw ht
 |getObj r k ih=>
  rintro R w W s' (hn|⟨r',k',rfl,qM,hk⟩) hw ht
  .exact .inr (hn _ hw.np)
  rw[bD];rcases hw.orR qM with x|x
  .obtain⟨ob,xM,h1,h2,h3⟩:=hw.cont r r' x
   rw[h1];have go:=ih ob (hk _ _ h3) hw ht;cases h3<;>first|exact go|exact .halt trivial
  .rw[x];exact .halt trivial
 |setObj r o k ih=>
  rintro R w W s' (hn|⟨r',o',k',rfl,qM,ho,hk⟩) hw ht
  .exact .inr (hn _ hw.np)
  rw[bD];rcases hw.orR qM with x|x
  .obtain⟨ob,xM,h1,h2,h3⟩:=hw.cont r r' x
   rw[h1];have go:(∀c T fz,ob≠ .cells c T fz)->Ends (k.run P.g {w with heap:=w.heap.setIfInBounds r o}):=λn1=>by
    have zI:¬St r:=by
     intro hs;obtain⟨_,c2,T2,hi,g1,g2⟩:=hw.st r hs;rw[h1] at g1;injection g1 with g1;exact n1 _ _ _ g1
    have st:=nA.upd hw x zI ho;exact ih hk st.rel (ht.step st)
   cases h3<;>first|exact go aO|exact .halt trivial
  .rw[x];exact .halt trivial
 |choose q k ih=>
  rintro R w W s' (hn|⟨k',rfl,hk⟩) hw ht
  .exact .inr (hn _ hw.np)
  rw[bD]
  cases hq:q.forced with
  |true=>
   simp only[if_true];exact ih 0 (hk 0) hw ht
  |false=>
   simp only[jE,if_false];have st:=nA.draw hw;exact ih _ (hk _) st.rel (ht.step st)
 |sys c k ih=>
  rintro R w W s' (hn|h) hw ht
  .exact .inr (hn _ hw.np)
  .exact h.elim
 |program k ih=>
  rintro R w W s' (hn|⟨k',rfl,hk⟩) hw ht
  .exact .inr (hn _ hw.np)
  rw[bD];exact ih _ hk hw ht
 |mark m k ih=>
  rintro R w W s' (hn|⟨rfl,k',rfl,hk⟩) hw ht
  .exact .inr (hn _ hw.np)
  rw[bD];exact ih hk hw ht
 |halt h=>
  rintro R w W s' (hn|hx) hw ht
  .exact .inr (hn _ hw.np)
  .exact hx.elim
end Go.Tt
