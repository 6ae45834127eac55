/-
  Part 1 of what stands behind the last text.
-/
import Derived.Test.YtfcjiloojkjaeaaGreatDoorRows
import Derived.Lib.SmallJoins
import Derived.WalkSpells
import Derived.WalkLawsBesides
import Derived.BigQuiet
import Derived.Deep.OwnRows
import Derived.Deep.AppendLies
import Derived.Deep.AppendSrc
import Derived.Deep.RegionLaw
import Derived.Lib.ItoaLen
import Derived.Deep.Matrix
import Derived.Deep.RegionHeld3
import Derived.Deep.CutRange
import Derived.Conc.Own
set_option linter.all false
open Array renaming foldl_toList→zpI,getD_eq_getD_getElem?→xE,getElem?_eq_getElem→qA,getElem?_eq_none_iff→zxI,getElem?_eq_some_iff→eE,getElem?_map→Fo,getElem?_modify→zpP,getElem?_push→zlv,getElem?_push_lt→zu5,getElem?_setIfInBounds_ne→rN,range→N1
open BitVec renaming ofInt→zh0
open Bool renaming eq_iff_iff→Mx,false_eq_true→gK
open Go renaming Addr→bD,BinOp→Mm,BoundsCode→zmq,Calls→iR,Ending→I8,FuncId→aN,IntKind→Cm,MapEntry→oV,Obj→pX,Oper→aZ,Operand→cI,Program→bT,Sem→cP,TypeDesc→Oh,TypeId→aM,TypeInfo→xB,Value→aF,World→aE,heap_alloc_new→gU,info_parts→Cg,run_append_own_at→zt8,yielded→dO
open Go.Addr renaming add→zez
open Go.Builtin renaming append_→wQ,cap_→znA,clear_→Qn,copy_→Dh,delete_→Lq,firstCells→Uy,holdsCells→zkP,lenOf→zoz,len_→zml,mayShare→zwp,unsafeAdd_→N6,zeroCells→pU
open Go.Ending renaming returned→zmu
open Go.Instr renaming alloc→zkJ,box→zjw,build→zkU,buildSlice→zkF,checkKey→G9,extract→ziu,fieldAt→zij,fill→M0,findAsking→Ka,findKey→Ls,findNow→Hb,index→zkC,indexAt→znn,keyThatStays→Pu,loadAt→zlP,lookup→Ah,makeChan→zja,makeInterface→ziH,makeMap→zjh,makeSlice→zlE,mapUpdate→Hh,sameBits→zbQ,sameNow→wM,slice→V4,sliceAt→X9,sliceBound→L0,sliceBounds→Y4,storeAt→zkj,sureAddr→ztm
open Go.Lib renaming decDigits→Ys,itoa→Mc
open Go.Op renaming addrCmp→zjP,addrMod→zjr,addrSub→zj4,equal→vJ,equalIn→tD,intArith→zw7,intBits→zn7,intDiv→zjl,shift→zif,stringOp→zhL,twoPlaces→zi0
open Go.Oper renaming wp→Cy
open Go.Proofs.Tryz renaming func48→zro,func62→zgn,ntmps48→zws,ntmps62→zdE,prog→aK,underlying57→Ll
open Go.Region renaming wanted→dG
open Go.Result renaming andThen_ok→F9
open Go.RowKit renaming Below→cD
open Go.RowKit.Below renaming heap_alloc→rS,heap_setCell→dN,refl→fN
open Go.Sem renaming events→zO,run→bK,runT→zZ,run_bind→E0,run_bind'→tP,run_pure→Jd
open Go.Value renaming cells→U8,okWide→zrs,oneCell'→zvw,ownBlock→K9,tuple→Xh
open Go.World renaming cell?→lN,cell?_alloc_lt→zn6,cell?_of_block→Cv,farLoad→zF,farStore→Dq,frozen?→Il,news_of_block→Fc,noCell→rB,setCell→zaI,shape?→zag,size_setCell→wL
open Int renaming emod_lt_of_pos→zkv,emod_nonneg→zh7,eq_ofNat_of_zero_le→zpb
open List renaming cons_append→Sr,ext_getElem?→zpr,filter_append→Ot,filter_cons→zsN,flatMap_cons→zk3,getElem?_eq_getElem→oX,getElem?_eq_some_iff→lR,getElem?_modify→I9,length_append→jP,length_cons→yH,length_drop→xY,length_filter_le→za5,length_modify→Np,length_take→sU,map_cons→jG,map_nil→tK,map_toArray→uR,mem_iff_getElem→Kq,nil_append→zgp,take_add_one→Nv,take_of_length_le→Ee
open Nat renaming add_assoc→zcq,le_refl→bN,le_trans→eM,lt_irrefl→Jn,lt_of_le_of_lt→zbJ,lt_of_lt_of_le→jW,lt_succ_self→yE,mod_lt→zqB,zero_add→rH,zero_le→mP
open Option.some renaming injEq→jM
open Pure renaming pure→lZ
open UInt8 renaming ofNat→zbz
structure qE (P:Prop):Prop where
 o:P
def aD {P:Prop}(h:P):qE P:=⟨h⟩
set_option maxHeartbeats 16000000
set_option maxRecDepth 100000
def zzO (X:Array aZ)(i:Nat):Go.Oper:=X.getD i ⟨none,.nilCheck (.tmp 0),0,"",#[],none⟩
abbrev aV (X:Array aZ)(i:Nat)(d:Option Go.Tmp)(o:Go.Op)(g:Option (Nat×Bool):=none):Go.Oper:=⟨d,o,(zzO X i).type,(zzO X i).pos,(zzO X i).after,g⟩
namespace Go
theorem aC{P:Prop}(h:P:=by omega):P:=h
theorem aH{P:Prop}(h:P:=by decide):P:=h
theorem aT{P:Prop}(h:P:=by kernel_rfl):P:=h
theorem aQ{P:Prop}(h:P:=by simp):P:=h
theorem Qq{P:Prop}(h:P:=by intro u hu;simp[bF.cells] at hu;rcases hu with rfl|rfl<;>rfl):P:=h
theorem pR{P:Prop}(h:P:=by simp;omega):P:=h
theorem Mk{P:Prop}(h:P:=by intro u hu;simp at hu;subst hu;rfl):P:=h
theorem tJ{P:Prop}(h:P:=by simp_all):P:=h
theorem oH{P:Prop}(h:P:=by go_num):P:=h
theorem s9{P:Prop}(h:P:=by grind):P:=h
theorem Gy{P:Prop}(h:P:=by simp[K9];omega):P:=h
theorem zqy{P:Prop}(h:P:=by intro k hk aS;have cU:k=0\/k=1\/k=2\/k=3\/k=4\/k=6:=(by omega);rcases cU with rfl|rfl|rfl|rfl|rfl|rfl<;>rfl):P:=h
theorem zoM{P:Prop}(h:P:=by intro k hk aS;have cU:k=0\/k=1\/k=2\/k=3\/k=4\/k=5:=(by omega);rcases cU with rfl|rfl|rfl|rfl|rfl|rfl<;>rfl):P:=h
theorem Ki{P:Prop}(h:P:=by simp only;omega):P:=h
theorem zgW{P:Prop}(h:P:=by rw[hl.o];exact bN _):P:=h
theorem zgS{P:Prop}(h:P:=by first|(simp;done)|(simp;omega)):P:=h
theorem Vq{P:Prop}(h:P:=by simpa using h1):P:=h
theorem V9{P:Prop}(h:P:=by simpa using h2):P:=h
theorem zpk{P:Prop}(h:P:=by unfold tV;rw[zjM HC.o (by rw[hl.o];exact bN _)];rfl):P:=h
theorem M2{P:Prop}(h:P:=by rw[bK]):P:=h
theorem Zj{P:Prop}(h:P:=by rw[eR];simp):P:=h
theorem zg7{P:Prop}(h:P:=by have:=t.size;omega):P:=h
theorem zol{P:Prop}(h:P:=by first|(simp[K9];done)|(simp[K9];omega)):P:=h
theorem zft{P:Prop}(h:P:=by simpa using zx8.o):P:=h
theorem zks{P:Prop}(h:P:=by first|exact jN|exact bM):P:=h
theorem zin{P:Prop}(h:P:=by first|exact bM|exact jN):P:=h
theorem zfR{P:Prop}(h:P:=by simp;exact aS):P:=h
theorem zdH{P:Prop}(h:P:=by simpa using hb):P:=h
theorem zq9{P:Prop}(h:P:=by simpa using hF 0 _ rfl hf.1 hf.2):P:=h
theorem ze9{P:Prop}(h:P:=by simpa using h):P:=h
theorem zff{P:Prop}(h:P:=by assumption):P:=h
end Go
namespace Go
def aP{α:Sort _}(a:α):∃y,y=a:=⟨_,rfl⟩
def ztq{p:Nat->Prop}(k:∀i,p i):p 0/\p 1/\p 2:=⟨k 0,k 1,k 2⟩
def eJ{p:Nat->Prop}(k:∀i,p i):p 0/\p 1/\p 2/\p 3/\p 4/\p 5/\p 6/\p 7:=⟨k 0,k 1,k 2,k 3,k 4,k 5,k 6,k 7⟩
end Go
namespace Go.Proofs.YtfcjiloojkjaeaaGreatDoor
open Go.Joins Go.ChangeShapes Go.WideShapes Go.RowKit Go.Deep
def own:ownKnob aK.godebug=none:=aT
def zxf:laidOutB aK=true:=aT
end Go.Proofs.YtfcjiloojkjaeaaGreatDoor
namespace Go.Proofs.YtfcjiloojkjaeaaGreatDoor
open Go.RowKit
def inB (n lo hi:Int):Bool:=decide (lo<=n/\n<=hi)
theorem U4 {a b:Bool}(h:a=b):zmu (.bool a)=.returned (.bool b):=by rw[h]
theorem Ie {k:Cm}{a b:Int}(h:a=b):zmu (.int k a)=.returned (.int k b):=by rw[h]
variable {W:aE}{N:Nat}{o:pX}
theorem iB (hN:W.heap[N]? =some o):N<W.heap.size:=by grind
variable {w1:aE}
def mH (hb:cD W.heap.size W w1)(hN:W.heap[N]? =some o):w1.heap[N]? =some o/\N<w1.heap.size:=
 ⟨(hb.block N (iB hN)).trans hN,jW (iB hN) hb.size⟩
def dD (hN:W.heap[N]? =some o)(o':pX):(W.alloc o').heap[N]? =some o:=(rS W o' N (iB hN)).trans hN
variable {w:aE}
def zvk (h:cD w.heap.size w W)(hb:cD W.heap.size W w1):cD w.heap.size w w1:=h.trans (hb.mono h.size)
def eD (h:cD w.heap.size w W)(o:pX):cD w.heap.size w (W.alloc o):=h.alloc h.size o
variable {cs:Array aF}{T:aM}{fz:Nat×Nat}
def aI (h:w.heap[N]? =some (.cells cs T fz))(o:Nat):w.cell? ⟨N,o,none⟩=cs[o]? :=cell_of_row w N o cs T fz h
theorem zuo (n lo hi:Int)(w:aE):
 iR aK 49 #[.int .i64 n,.int .i64 lo,.int .i64 hi] w λe w'=>e=.returned (.bool (inB n lo hi))/\w'=w:=by
 go_enter Tryz.func49,Tryz.ntmps49
 go_wp2
 all_goals go_ret
 all_goals exact⟨U4 (by simp[inB];omega),rfl⟩
structure cM (w:aE)(lo hi s:Nat)(A:Option bD)(n c:Nat)(xs:List aF):Prop where
 len:xs.length=n*s
 le:n<=c
 cap:c<=maxLen
 at_:0<n->∃b off,A=some ⟨b,off,none⟩/\lo<=b/\b<hi/\b<w.heap.size/\∀j v,xs[j]? =some v->w.cell? ⟨b,off+j,none⟩=some v
variable {w':aE}{lo hi s n c:Nat}{A:Option bD}{xs:List aF}
theorem cM.keep (h:cM w lo hi s A n c xs)(hs:w.heap.size<=w'.heap.size)(k:∀b,lo<=b->b<hi->b<w.heap.size->w'.heap[b]? =w.heap[b]?):cM w' lo hi s A n c xs:=
 ⟨h.len,h.le,h.cap,λhn=>by
  obtain⟨b,off,e,h1,h2,h3,h4⟩:=h.at_ hn;exact⟨b,off,e,h1,h2,jW h3 hs,λj v hv=>(Cv (k b h1 h2 h3)).trans (h4 j v hv)⟩⟩
def cM.below (h:cM w lo hi s A n c xs)(hb:cD w.heap.size w w'):cM w' lo hi s A n c xs:=
 h.keep hb.size λb _ _ h3=>hb.block b h3
def cM.alloc (h:cM w lo hi s A n c xs)(o:pX):cM (w.alloc o) lo hi s A n c xs:=
 h.keep aQ λb _ _ h3=>rS w o b h3
theorem cM.wide {Bq mJ:Nat}(h:cM w lo hi s A n c xs)(h1:Bq<=lo)(h2:hi<=mJ):cM w Bq mJ s A n c xs:=
 ⟨h.len,h.le,h.cap,λhn=>by obtain⟨b,off,e,k1,k2,k3,k4⟩:=h.at_ hn;exact⟨b,off,e,aC,aC,k3,k4⟩⟩
def jQ (xs:List Int):List Value:=xs.map (aF.int .i64)
variable {k:Nat}{xs:List Int}
theorem zFY (h:k<xs.length):(jQ xs)[k]? =some (.int .i64 xs[k]):=by simp[jQ,h]
theorem cM.cellAt (h:cM w lo hi 1 A n c (jQ xs))(hk:k<n):∃b off v,A=some ⟨b,off,none⟩/\lo<=b/\b<hi/\b<w.heap.size/\xs[k]? =some v/\w.cell? ⟨b,off+k,none⟩=some (.int .i64 v):=by
 obtain⟨b,off,e,h1,h2,h3,h4⟩:=h.at_ aC;have hl:k<xs.length:=by have:=h.len;simp[jQ] at this;omega
 exact⟨b,off,xs[k],e,h1,h2,h3,oX hl,h4 k _ (zFY hl)⟩
theorem cM.length (h:cM w lo hi 1 A n c (jQ xs)):xs.length=n:=by have:=h.len;simp[jQ] at this;exact this
def zFt:(aK.info? 3).map (λi=>(i.zero,i.size,i.bytes))=some (some (.int .i64 0),1,8):=aT
theorem eO (h:w.heap[N]? =some (.cells cs T))(o:Nat):w.frozen? ⟨N,o,none⟩=false:=by simp[Il,h]
theorem n8 {g i:Nat}(h:w.heap[g]? =some (.cells cs T fz))(v:aF):(w.setCell ⟨g,i,none⟩ v).heap[g]? =some (.cells (cs.setIfInBounds i v) T fz):=by
 simp[zaI,zpP,h]
structure Chg (lo hi:Nat)(w w':aE):Prop where
 os:w'.os=w.os
 tape:w'.tape=w.tape
 output:w'.output=w.output
 size:w.heap.size<=w'.heap.size
 block:∀i,i<w.heap.size->¬(lo<=i/\i<hi)->w'.heap[i]? =w.heap[i]?
def Chg.refl (lo hi:Nat)(w:aE):Chg lo hi w w:=⟨rfl,rfl,rfl,bN _,λ_ _ _=>rfl⟩
theorem Chg.setCell {a b:aE}(h:Chg lo hi a b){p:bD}(h1:lo<=p.block)(h2:p.block<hi)(v:aF):Chg lo hi a (b.setCell p v):=
 ⟨h.os,h.tape,h.output,by simpa[zaI] using h.size,λi hi aS=>(dN b p v i aC).trans (h.block i hi aS)⟩
structure Own (w:aE)(lo hi:Nat)(A:Option bD)(n c:Nat)(xs:List Int):Prop where
 slc:cM w lo hi 1 A n c (jQ xs)
 blk:0<n->∃b cs,A=some ⟨b,0,none⟩/\w.heap[b]? =some (.cells cs 3)/\n<=cs.size
structure Ce (E s:Nat)(w:aE)(lo hi:Nat)(A:Option bD)(n c:Nat)(xs:List aF):Prop where
 slc:cM w lo hi s A n c xs
 blk:0<n->∃b cs,A=some ⟨b,0,none⟩/\w.heap[b]? =some (.cells cs E)/\n*s<=cs.size
section
variable {E s:Nat}{w w':aE}{lo hi n c:Nat}{A:Option bD}{xs:List aF}
theorem Ce.keep (h:Ce E s w lo hi A n c xs)(hs:w.heap.size<=w'.heap.size)(k:∀b,lo<=b->b<hi->b<w.heap.size->w'.heap[b]? =w.heap[b]?):Ce E s w' lo hi A n c xs:=
 ⟨h.slc.keep hs k,λhn=>by
  obtain⟨b,cs,e,hb,hc⟩:=h.blk hn;obtain⟨b',off,e',h1,h2,h3,_⟩:=h.slc.at_ hn;rw[e] at e';injection e' with e';injection e' with e1 e2 e3;subst e1;exact⟨b,cs,e,(k b h1 h2 h3).trans hb,hc⟩⟩
def Ce.wide {Bq mJ:Nat}(h:Ce E s w lo hi A n c xs)(h1:Bq<=lo)(h2:hi<=mJ):Ce E s w Bq mJ A n c xs:=⟨h.slc.wide h1 h2,h.blk⟩
theorem zeo {base:Nat}{v:aF}(h:w.ownsRow base E s v n xs)(hs:0<s):∃A c,v=.slice A n c/\Ce E s w base w.heap.size A n c xs:=by
 obtain⟨hl,h|⟨g,cap,cur,rfl,hb,hg,hn,hc,cK,ht⟩⟩:=h
 .obtain⟨rfl,rfl⟩:=h
  exact⟨none,0,rfl,⟨⟨hl,bN _,mP _,λh=>absurd h aC⟩,λh=>absurd h aC⟩⟩
 .refine⟨_,cap,rfl,⟨⟨hl,hn,hc,λh0=>⟨g,0,rfl,hb,iB hg,iB hg,λj v hv=>?_⟩⟩,λh0=>⟨g,cur,rfl,hg,by grind⟩⟩⟩
  rw[rH,aI hg]
  grind
theorem cM.cells (h:cM w lo hi s A n c xs){k:Nat}(hk:k<n):∃b off,A=some ⟨b,off,none⟩/\lo<=b/\b<hi/\b<w.heap.size/\∀f v,xs[k*s+f]? =some v->w.cell? ⟨b,off+(k*s+f),none⟩=some v:=by
 obtain⟨b,off,e,h1,h2,h3,h4⟩:=h.at_ aC;exact⟨b,off,e,h1,h2,h3,λf v hv=>h4 _ v hv⟩
end
variable {α:Type}
theorem Ns (f:α->List aF)(hf:∀a,(f a).length=s):∀(l:List α) (k i:Nat),i<s->(l.flatMap f)[k*s+i]? =(l[k]?).bind λa=>(f a)[i]?
 |[],k,i,_=>by simp
 |a::l,0,i,hi=>by grind
 |a::l,k+1,i,hi=>by
  rw[zk3,List.getElem?_append_right s9,hf,show(k+1)*s+i-s=k*s+i by grind,Ns f hf l k i hi];rfl
theorem J6 (f:α->List aF)(hf:∀a,(f a).length=s)(l:List α):(l.flatMap f).length=l.length*s:=by
 induction l with
 |nil=>simp
 |cons a l ih=>grind
variable {xs:List aF}{E:Nat}{v:aF}
theorem ztJ {W':aE}{base n:Nat}{w0:aE}(h:w0.ownsRow base E s v n xs)(g:W.grownBy W' v.ownBlock)(hb:base<=W.heap.size):cD base W W':=
 ⟨g.os,g.tape,g.output,g.size,λi hi=>g.block i aC (by
  obtain⟨_,h|⟨b,cap,cur,rfl,h1,_⟩⟩:=h
  .rw[h.1];simp[K9]
  .simp[K9];omega)⟩
theorem ziR {base n:Nat}(h:w.ownsRow base E s v n xs)(hv:¬v=.slice none 0 0):∃g c,v=.slice (some ⟨g,0,none⟩) n c:=by
 obtain⟨_,h|⟨b,cap,cur,rfl,h1,_⟩⟩:=h
 .exact absurd h.1 hv
 simp_all
def Oy {base g:Nat}(hb:base<=g)(hg:w.heap[g]? =some (.cells #[] E)):w.ownsRow base E s (.slice (some ⟨g,0,none⟩) 0 0) 0 []:=
 ⟨aQ,.inr ⟨g,0,#[],rfl,hb,hg,bN _,mP _,aQ,aQ⟩⟩
theorem Br {base n:Nat}(h:w.ownsRow base E s v n xs)(hb:∀b,b<w.heap.size->w'.heap[b]? =w.heap[b]?):w'.ownsRow base E s v n xs:=by
 obtain⟨hl,h|⟨g,cap,cur,rfl,h1,hg,h2⟩⟩:=h
 .exact⟨hl,.inl h⟩
 .exact⟨hl,.inr ⟨g,cap,cur,rfl,h1,(hb g (iB hg)).trans hg,h2⟩⟩
def zph {base n:Nat}(h:w.ownsRow base E s v n xs)(hb:cD w.heap.size w w'):w'.ownsRow base E s v n xs:=Br h λb h=>hb.block b h
def Kg (h:w.heap[N]? =some o):w.drew.heap[N]? =some o:=h
def zfm {a:aE}{B:Nat}(h:cD B a w):cD B a w.drew:=⟨h.os,h.tape,h.output,h.size,h.block⟩
theorem lV (w:aE)(o:pX){b:Nat}(hb:b=w.heap.size):(w.alloc o).heap[b]? =some o:=by subst hb;exact gU w o
section
variable {P:bT}(w:aE)
theorem ziE (t ty:aM)(base:Nat)(e:aM)(i:xB)(z:aF)(size bytes:Nat)(ht:P.underlying t=some (.slice e))(hi:P.info? e=some i)(hz:i.zero=some z)
 (xI:i.size=size) (uG:i.bytes=bytes) (hzs:z.cells.size=size) (cK:0<size)
 (v:aF) (n:Nat) (xs:List aF) (cZ:w.ownsRow base e size v n xs) (hv:¬v=.slice none 0 0)
 (ad:bD) (m c:Nat) (news:List aF) (hl:news.length=m*size) (E6:∀j u,news[j]? =some u->w.cell? (ad.add j)=some u) (h1:∀u∈news,u.oneCell'=true)
 (xN:n+m<=maxLen) (xF:(n+m)*bytes<=140737488355328) (rY:base<=w.heap.size):
 ∃g cap w',(wQ #[t,t] ty #[v,.slice (some ad) m c]).run P w=.ok (.slice (some ⟨g,0,none⟩) (n+m) cap) w'/\
  w'.ownsRow base e size (.slice (some ⟨g,0,none⟩) (n+m) cap) (n+m) (xs++news)/\w.grownBy w' v.ownBlock/\cD base w w':=by
 obtain⟨v',w',hr,h2,h3,h4,h5⟩:=zt8 (P:=P) w base t ty e i z size bytes ht hi hz xI uG hzs cK v n xs cZ ad m c news hl E6 h1 xN xF rY;obtain⟨g,cap,rfl⟩:=ziR h2 (λh=>hv (h4.1 h).1);exact⟨g,cap,w',hr,h2,h3,ztJ cZ h3 rY⟩
variable {o:aZ}{a:Act}
theorem zv1 {K:Act->aE->Prop}{Q:Exit->Act->aE->Prop}(s x:cI)(t:aM)
 (ho:o.op=.call {callee:=.builtin .append,args:=#[s,x],argTypes:=#[t,t]})
 (base:Nat) (e:aM) (i:xB) (z:aF) (size bytes:Nat) (ht:P.underlying t=some (.slice e)) (hi:P.info? e=some i) (hz:i.zero=some z)
 (xI:i.size=size) (uG:i.bytes=bytes) (hzs:z.cells.size=size) (cK:0<size)
 (v:aF) (n:Nat) (xs:List aF) (hs:a.eval s=v) (cZ:w.ownsRow base e size v n xs) (hv:¬v=.slice none 0 0)
 (ad:bD) (m c:Nat) (news:List aF) (hx:a.eval x=.slice (some ad) m c) (hl:news.length=m*size) (E6:∀j u,news[j]? =some u->w.cell? (ad.add j)=some u) (h1:∀u∈news,u.oneCell'=true)
 (xN:n+m<=maxLen) (xF:(n+m)*bytes<=140737488355328) (rY:base<=w.heap.size)
 (h:∀g cap w',w'.ownsRow base e size (.slice (some ⟨g,0,none⟩) (n+m) cap) (n+m) (xs++news)->w.grownBy w' v.ownBlock->cD base w w'->K (a.put o.dst (.slice (some ⟨g,0,none⟩) (n+m) cap)) w'):o.wp P a w K Q:=by
 obtain⟨g,cap,w',hr,h2,h3,h4⟩:=ziE (P:=P) w t o.type base e i z size bytes ht hi hz xI uG hzs cK v n xs cZ hv ad m c news hl E6 h1 xN xF rY;unfold Cy execOp;simp only[ho,resolve,invoke,builtin,E0,Jd,F9,uR,jG,tK,hs,hx,hr];exact h g cap w' h2 h3 h4
variable {ops:Array aZ}
def zqX {rest:List aZ}{Q:Exit->Act->aE->Prop}(Eu:o.guard=none)(s x:cI)(t:aM)
 (ho:o.op=.call {callee:=.builtin .append,args:=#[s,x],argTypes:=#[t,t]})
 (base:Nat) (e:aM) (i:xB) (z:aF) (size bytes:Nat) (ht:P.underlying t=some (.slice e)) (hi:P.info? e=some i) (hz:i.zero=some z)
 (xI:i.size=size) (uG:i.bytes=bytes) (hzs:z.cells.size=size) (cK:0<size)
 (v:aF) (n:Nat) (xs:List aF) (hs:a.eval s=v) (cZ:w.ownsRow base e size v n xs) (hv:¬v=.slice none 0 0)
 (ad:bD) (m c:Nat) (news:List aF) (hx:a.eval x=.slice (some ad) m c) (hl:news.length=m*size) (E6:∀j u,news[j]? =some u->w.cell? (ad.add j)=some u) (h1:∀u∈news,u.oneCell'=true)
 (xN:n+m<=maxLen) (xF:(n+m)*bytes<=140737488355328) (rY:base<=w.heap.size)
 (h:∀g cap w',w'.ownsRow base e size (.slice (some ⟨g,0,none⟩) (n+m) cap) (n+m) (xs++news)->w.grownBy w' v.ownBlock->cD base w w'->wpList P ops Q rest (a.put o.dst (.slice (some ⟨g,0,none⟩) (n+m) cap)) w'):wpList P ops Q (o::rest) a w:=
 wpList_plain Eu λ_ hK=>zv1 w s x t ho base e i z size bytes ht hi hz xI uG hzs cK v n xs hs cZ hv ad m c news hx hl E6 h1 xN xF rY λg cap w' h2 h3 h4=>hK _ _ (h g cap w' h2 h3 h4)
theorem zto {K:Act->aE->Prop}{Q:Exit->Act->aE->Prop}{EE:Prop}(Eu:o.guard=none)(s x:cI)(t:aM)
 (ho:o.op=.call {callee:=.builtin .append,args:=#[s,x],argTypes:=#[t,t]})
 (base:Nat) (e:aM) (i:xB) (z:aF) (size bytes:Nat) (ht:P.underlying t=some (.slice e)) (hi:P.info? e=some i) (hz:i.zero=some z)
 (xI:i.size=size) (uG:i.bytes=bytes) (hzs:z.cells.size=size) (cK:0<size)
 (v:aF) (n:Nat) (xs:List aF) (hs:a.eval s=v) (cZ:w.ownsRow base e size v n xs) (hv:¬v=.slice none 0 0)
 (ad:bD) (m c:Nat) (news:List aF) (hx:a.eval x=.slice (some ad) m c) (hl:news.length=m*size) (E6:∀j u,news[j]? =some u->w.cell? (ad.add j)=some u) (h1:∀u∈news,u.oneCell'=true)
 (xN:n+m<=maxLen) (xF:(n+m)*bytes<=140737488355328) (rY:base<=w.heap.size)
 (h:∀g cap w',w'.ownsRow base e size (.slice (some ⟨g,0,none⟩) (n+m) cap) (n+m) (xs++news)->w.grownBy w' v.ownBlock->cD base w w'->K (a.put o.dst (.slice (some ⟨g,0,none⟩) (n+m) cap)) w'):
 if dG o (dO ops a.tmps)=true then Cy P o a w K Q else EE:=by
 have hw:dG o (dO ops a.tmps)=true:=by simp[dG,Eu]
 rw[if_pos hw];exact zv1 w s x t ho base e i z size bytes ht hi hz xI uG hzs cK v n xs hs cZ hv ad m c news hx hl E6 h1 xN xF rY h
end
theorem zs9 (xs:List Int):∀u∈jQ xs,u.oneCell'=true:=by
 intro u hu;obtain⟨x,_,rfl⟩:=List.mem_map.1 hu;rfl
theorem As {base n c:Nat}(h:w.ownsRow base E s (.slice A n c) n xs)(hs:0<s):cM w base w.heap.size s A n c xs:=by
 obtain⟨A',c',e,o⟩:=zeo h hs;injection e with e1 e2 e3;subst e1 e3;exact o.slc
theorem N0 (a b:Array UInt8):(⟨a⟩:ByteArray)++⟨b⟩=⟨a++b⟩:=by
 apply ByteArray.ext;simp_all
theorem Ss (hk:k<=100000000):(Ys k).length<=20:=by
 rw[Lib.decDigits_length];exact Lib.nDigits_le20 k aC
theorem cv1 (w:aE)(x:Nat)(hx:x<=255):(convert 42 9 (.slice (some ⟨w.heap.size,0,none⟩) 1 1)).run aK (w.alloc (.cells #[.int .u8 (x:Int)] 5))=.ok (.string ⟨[zbz x].toArray⟩) (w.alloc (.cells #[.int .u8 (x:Int)] 5)):=
 run_convert_bytes_back (P:=aK) _ 42 9 5 ⟨w.heap.size,0,none⟩ 1 [zbz x] Tryz.underlying42 Tryz.underlying5 Tryz.underlying9 (λj hj=>by
  obtain rfl:j=0:=by simp at hj;omega
  simp[zez];omega)
end Go.Proofs.YtfcjiloojkjaeaaGreatDoor
namespace Go.Proofs.YtfcjiloojkjaeaaGreatDoor
open Go.Joins Go.ChangeShapes Go.WideShapes Go.RowKit Go.Deep
section
variable {H:Type}{enc:aM×aF->H}{P:bT}{w:aE}{base:Nat}{held:Bool}
theorem add_plain (b off j:Nat):(bD.mk b off none).add j=⟨b,off+j,none⟩:=by unfold zez;split<;>simp_all
end
end Go.Proofs.YtfcjiloojkjaeaaGreatDoor
namespace Go.Proofs.YtfcjiloojkjaeaaGreatDoor
open Go.RowKit
variable {w:aE}
theorem zb5 (a:bD)(v:aF):w.grownBy (w.setCell a v) (some a.block):=
 ⟨rfl,rfl,rfl,by simp[zaI],λi hi aS=>dN w a v i (λe=>aS (by rw[e]))⟩
variable {a:aE}{row:Option Nat}
def zyR (h:a.grownBy w row)(n:Nat):a.grownBy (w.drewN n) row:=⟨h.os,h.tape,h.output,h.size,h.block⟩
def zlQ {b c:aE}(h:a.grownBy b row)(k:b.grownBy c row):a.grownBy c row:=
 ⟨k.os.trans h.os,k.tape.trans h.tape,k.output.trans h.output,eM h.size k.size,λi hi aS=>(k.block i (jW hi h.size) aS).trans (h.block i hi aS)⟩
def zHU (h:cD a.heap.size a w)(row:Option Nat):a.grownBy w row:=⟨h.os,h.tape,h.output,h.size,λi hi _=>h.block i hi⟩
variable {g:Nat}
def zDl {B:Nat}(h:a.grownBy w (some g))(hB:B<=g)(hg:B<=a.heap.size):cD B a w:=
 ⟨h.os,h.tape,h.output,h.size,λi hi=>h.block i (jW hi hg) pR⟩
structure zcG (w:aE)(g:Nat)(A:Option bD)(n:Nat):Prop where
 le:n<=2000
 at_:0<n->∃b off,A=some ⟨b,off,none⟩/\b<g/\∀j,j<n->∃v:Int,w.cell? ⟨b,off+j,none⟩=some (.int .u8 v)/\0<=v/\v<=255
variable {w':aE}{n:Nat}{A:Option bD}
theorem zcG.keep (h:zcG w g A n)(k:∀b,b<g->w'.heap[b]? =w.heap[b]?):zcG w' g A n:=
 ⟨h.le,λhn=>by
  obtain⟨b,off,e,hb,hj⟩:=h.at_ hn;refine⟨b,off,e,hb,λj Ux=>?_⟩;obtain⟨v,hv,h0⟩:=hj j Ux;exact⟨v,(Cv (k b hb)).trans hv,h0⟩⟩
structure RdX (w:aE)(g:Nat)(A:Option bD)(n c p:Nat):Prop where
 blk:w.heap[g]? =some (.cells #[.slice A n c,.int .i64 (p:Int)] 105)
 bytes:zcG w g A n
 lt:p<1000000000
def Pa (w:aE)(g:Nat)(A:Option bD)(n c p d:Nat)(K:Int->Prop)(e:I8)(w':aE):Prop:=
 ∃r:Int,e=.returned (.int .i64 r)/\K r/\w'.heap[g]? =some (.cells #[.slice A n c,.int .i64 ((p+d:Nat):Int)] 105)/\w.grownBy w' (some g)
theorem zBC (g p n c:Nat)(A:Option bD)(m:Int)(w:aE)(h:RdX w g A n c p)(hm:m<1\/n=0):
 iR aK 62 #[.pointer (some ⟨g,0,none⟩),.int .i64 m] w (Pa w g A n c p 1 λr=>r=0):=by
 have hc:=aI h.blk;have hf:∀o,w.frozen? ⟨g,o,none⟩=false:=λo=>by simp[Il,h.blk]
 have hp:=h.lt;have hb:=h.blk;have hn:=h.bytes.le;have HB:=aD hb;clear h hb;by_cases Vh:m<1
 .clear hm
  go_enter zgn,zdE
  go_wp2;go_ret;exact⟨0,rfl,rfl,(n8 HB.o _).trans aQ,zb5 _ _⟩
 .have zaQ:n=0:=by rcases hm with h|h;exact absurd h Vh;exact h
  subst zaQ;clear hm
  go_enter zgn,zdE
  go_wp2;go_ret;exact⟨0,rfl,rfl,(n8 HB.o _).trans aQ,zb5 _ _⟩
theorem zHM (g p n c:Nat)(A:Option bD)(m:Int)(w:aE)(h:RdX w g A n c p)(hm:1<=m)(wH:m<=1000000)(Xv:p<n):
 iR aK 62 #[.pointer (some ⟨g,0,none⟩),.int .i64 m] w (Pa w g A n c p 1 λr=>0<=r/\r<m):=by
 have hc:=aI h.blk;have hf:∀o,w.frozen? ⟨g,o,none⟩=false:=λo=>by simp[Il,h.blk]
 have hp:=h.lt;have hb:=h.blk;have hn:=h.bytes.le;have HB:=aD hb;obtain⟨b,off,rfl,lL,hj⟩:=h.bytes.at_ aC;obtain⟨v,hv,v0,v1⟩:=hj p Xv;have zaQ:((n:Int)==0)=false:=pR;have zdz:(m==0)=false:=pR;clear h hb hj
 go_enter zgn,zdE
 go_wp2;go_ret;exact⟨_,rfl,⟨zh7 _ aC,zkv _ aC⟩,(n8 HB.o _).trans aQ,zb5 _ _⟩
theorem zAL (x y:Int)(hx:0<=x)(vS:x<9223372036854775808)(hy:0<=y)(zsg:y<9223372036854775808):0<=bits .xor .i64 x y:=by
 obtain⟨a,rfl⟩:=zpb hx;obtain⟨b,rfl⟩:=zpb hy;have ha:a<9223372036854775808:=aC;have hb:b<9223372036854775808:=aC;have e:∀z:Nat,z<9223372036854775808->(zh0 64 (z:Int)).toNat=z:=λz hz=>by grind
 have aU:a^^^b<2^63:=Nat.xor_lt_two_pow aC aC;show 0<=Cm.i64.wrap ((zh0 64 (a:Int)^^^zh0 64 (b:Int)).toNat:Int);rw[BitVec.toNat_xor,e a ha,e b hb,Cm.wrap_i64];omega
theorem zIr (g p n c:Nat)(A:Option bD)(m:Int)(w:aE)(h:RdX w g A n c p)(hm:1<=m)(wH:m<=1000000)(Xv:¬p<n)(h0:0<n):
 iR aK 62 #[.pointer (some ⟨g,0,none⟩),.int .i64 m] w (Pa w g A n c p 1 λr=>0<=r/\r<m):=by
 have hc:=aI h.blk;have hf:∀o,w.frozen? ⟨g,o,none⟩=false:=λo=>by simp[Il,h.blk]
 have hp:=h.lt;have hb:=h.blk;have hn:=h.bytes.le;have HB:=aD hb;obtain⟨b,off,rfl,lL,hj⟩:=h.bytes.at_ h0;have zfG:(0:Int)<n:=aC;have i1:(0:Int)<=(p:Int)%n:=zh7 _ aC;have i2:(p:Int)%n<n:=zkv _ zfG;have i3:(0:Int)<=((p:Int)*7+3)%n:=zh7 _ aC;have i4:((p:Int)*7+3)%n<n:=zkv _ zfG;have q0:(0:Int)<=(p:Int)/n:=Int.ediv_nonneg aC aC;have q1:(p:Int)/n<=1000000000:=Int.le_trans (Int.ediv_le_self _ aC) aC;obtain⟨v,hv,v0,v1⟩:=hj (p%n) (zqB _ h0);obtain⟨u,hu,u0,u1⟩:=hj ((p*7+3)%n) (zqB _ h0);have zaQ:((n:Int)==0)=false:=pR;have zdz:(m==0)=false:=pR;clear h hb hj
 go_enter zgn,zdE
 go_wp2
 go_quiet (fail)
 go_wp2;go_ret;have hx:=zAL (v*131+u*1117+↑p*29+↑p/↑n*53) ((v*131+u*1117+↑p*29+↑p/↑n*53)/64) aC aC aC aC;exact⟨_,rfl,⟨Int.tmod_nonneg _ hx,Int.tmod_lt_of_pos _ aC⟩,(n8 HB.o _).trans aQ,zyR (zb5 _ _) _⟩
variable {c:Nat}{K:Int->Prop}{e:I8}
def Pa.mono {p d:Nat}{K':Int->Prop}(h:Pa w g A n c p d K e w')(hk:∀r,K r->K' r):Pa w g A n c p d K' e w':=
 let⟨r,he,hr,hb,hg⟩:=h;⟨r,he,hk r hr,hb,hg⟩
theorem zyW (g p n c:Nat)(A:Option bD)(m:Int)(w:aE)(h:RdX w g A n c p)(hm:1<=m)(wH:m<=1000000):
 iR aK 62 #[.pointer (some ⟨g,0,none⟩),.int .i64 m] w (Pa w g A n c p 1 λr=>0<=r/\r<m):=by
 by_cases h0:n=0
 .exact(zBC g p n c A m w h (.inr h0)).mono λ_ _ hd=>hd.mono λr hr=>by omega
 .by_cases hp:p<n
  .exact zHM g p n c A m w h hm wH hp
  .exact zIr g p n c A m w h hm wH hp aC
def RdX.next {p d:Nat}(h:RdX w g A n c p)(hb:w'.heap[g]? =some (.cells #[.slice A n c,.int .i64 ((p+d:Nat):Int)] 105))(hg:w.grownBy w' (some g))(hp:p+d<1000000000):RdX w' g A n c (p+d):=
 ⟨hb,h.bytes.keep λb hl=>hg.block b (Nat.lt_trans hl (iB h.blk)) pR,hp⟩
def zxK {b o:Nat}(h:w.grownBy w' (some g))(hb:b<w.heap.size)(aS:b≠g):w'.cell? ⟨b,o,none⟩=w.cell? ⟨b,o,none⟩:=
 Cv (h.block b hb zfR)
def Wk (h:a.grownBy w row)(o:pX):a.grownBy (w.alloc o) row:=
 ⟨h.os,h.tape,h.output,eM h.size aQ,λi hi aS=>(rS w o i (jW hi h.size)).trans (h.block i hi aS)⟩
variable {N:Nat}
def zhg {W w1:aE}{o:pX}(hb:W.grownBy w1 (some g))(hN:W.heap[N]? =some o)(aS:N≠g):w1.heap[N]? =some o/\N<w1.heap.size:=
 ⟨(hb.block N (iB hN) zfR).trans hN,jW (iB hN) hb.size⟩
def Rd (w:aE)(g:Nat)(A:Option bD)(n c q:Nat):Prop:=∃p,p<=q/\RdX w g A n c p
variable {q:Nat}
def Rd.mono {q':Nat}(h:Rd w g A n c q)(hq:q<=q'):Rd w g A n c q':=let⟨p,hp,hx⟩:=h;⟨p,aC,hx⟩
def Rd.keep (h:Rd w g A n c q)(k:∀b,b<=g->w'.heap[b]? =w.heap[b]?):Rd w' g A n c q:=
 let⟨p,hp,hx⟩:=h;⟨p,hp,(k g (bN _)).trans hx.blk,hx.bytes.keep λb hb=>k b aC,hx.lt⟩
def Rd.gblt (h:Rd w g A n c q):g<w.heap.size:=let⟨_,_,hx⟩:=h;iB hx.blk
def Rd.alloc (h:Rd w g A n c q)(o:pX):Rd (w.alloc o) g A n c q:=
 h.keep λb hb=>rS w o b (zbJ hb h.gblt)
def Rd.setCell (h:Rd w g A n c q){a:bD}(ha:g<a.block)(v:aF):Rd (w.setCell a v) g A n c q:=
 h.keep λb hb=>dN w a v b aC
def Rd.below (h:Rd w g A n c q)(hb:cD w.heap.size w w'):Rd w' g A n c q:=
 h.keep λb hl=>hb.block b (zbJ hl h.gblt)
theorem zof (h:a.grownBy w row){p:bD}(hp:a.heap.size<=p.block)(v:aF):a.grownBy (w.setCell p v) row:=
 ⟨h.os,h.tape,h.output,by simpa[zaI] using h.size,λi hi aS=>(dN w p v i aC).trans (h.block i hi aS)⟩
variable {cs:Array aF}{T:aM}
theorem qS (h:w.heap[N]? =some (.cells cs T))(o:Nat):w.frozen? ⟨N,o,none⟩=false:=by simp[Il,h]
def Got (w:aE)(g:Nat)(A:Option bD)(n c q:Nat)(K:Int->Prop)(e:I8)(w':aE):Prop:=
 ∃r:Int,e=.returned (.int .i64 r)/\K r/\Rd w' g A n c q/\w.grownBy w' (some g)
theorem got_of {p:Nat}(hx:RdX w g A n c p)(hp:p<=q)(hq:q+1<1000000000)(h:Pa w g A n c p 1 K e w'):Got w g A n c (q+1) K e w':=by
 obtain⟨r,he,hr,hb,hg⟩:=h;exact⟨r,he,hr,⟨p+1,aC,hx.next hb hg aC⟩,hg⟩
theorem En (g q n c:Nat)(A:Option bD)(m:Int)(w:aE)(h:Rd w g A n c q)(hq:q+1<1000000000)(hm:1<=m)(wH:m<=1000000):
 iR aK 62 #[.pointer (some ⟨g,0,none⟩),.int .i64 m] w (Got w g A n c (q+1) λr=>0<=r/\r<m):=by
 obtain⟨p,hp,hx⟩:=h;exact(zyW g p n c A m w hx hm wH).mono λ_ _ hd=>got_of hx hp hq hd
theorem Q1 (g q n c l lo k kc:Nat)(A:Option bD)(w:aE)(h:Rd w g A n c q)(hq:q+1<1000000000)(hk:0<k)(qU:k<=1000000)(hl:l<w.heap.size)(zbG:l≠g)
 (hc:∀j,j<k->∃v:Int,w.cell? ⟨l,lo+j,none⟩=some (.int .i64 v)):
 iR aK 88 #[.pointer (some ⟨g,0,none⟩),.slice (some ⟨l,lo,none⟩) k kc] w (Got w g A n c (q+1) λ_=>True):=by
 have H:=aD hc;clear hc
 go_enter Tryz.func88,Tryz.ntmps88
 go_wp2_with fail
 refine(En g q n c A _ _ h hq aC aC).mono ?_;rintro e w1 ⟨r,rfl,⟨r0,r1⟩,hr,hg⟩;obtain⟨v,hv⟩:=H.o r.toNat aC;have pD:=(zxK hg hl zbG).trans hv;clear hv;go_wp2;go_ret;exact⟨v,rfl,trivial,hr,hg⟩
theorem zDV {l:Nat}{fz:Nat×Nat}(h:w.heap[l]? =some (.cells cs T fz))(k:Nat)(hk:∀j,j<k->∃v:Int,cs[j]? =some (.int .i64 v)):
 ∀j,j<k->∃v:Int,w.cell? ⟨l,0+j,none⟩=some (.int .i64 v):=λj hj=>by
 obtain⟨v,hv⟩:=hk j hj;exact⟨v,by rw[rH,aI h,hv]⟩
structure Code (w:aE)(A:Option bD)(n c:Nat):Prop where
 le:n<=c
 cap:c<=maxLen
 at_:0<n->∃b off,A=some ⟨b,off,none⟩/\b<w.heap.size/\∀j,j<n->∃v:Int,w.cell? ⟨b,off+j,none⟩=some (.int .u8 v)/\0<=v/\v<=255
def Opened (w:aE)(e:I8)(w':aE):Prop:=∃g A n c,e=.returned (.pointer (some ⟨g,0,none⟩))/\Rd w' g A n c 0/\cD w.heap.size w w'/\w.heap.size<=g
theorem zrA {m:Nat}(h:Code w A n c)(hm:m<=n)(wH:m<=2000)(o:pX):zcG (w.alloc o) w.heap.size A m:=
 ⟨wH,λh0=>by
  obtain⟨b,off,e,hb,hj⟩:=h.at_ aC;refine⟨b,off,e,hb,λj zu1=>?_⟩;obtain⟨v,hv,h1⟩:=hj j aC;exact⟨v,(zn6 w o _ hb).trans hv,h1⟩⟩
theorem Code.alloc (h:Code w A n c)(o:pX):Code (w.alloc o) A n c:=
 ⟨h.le,h.cap,λh0=>by
  obtain⟨b,off,e,hb,hj⟩:=h.at_ h0;refine⟨b,off,e,pR,λj zu1=>?_⟩;obtain⟨v,hv,h1⟩:=hj j zu1;exact⟨v,(zn6 w o _ hb).trans hv,h1⟩⟩
theorem zzb (A:Option bD)(n c:Nat)(w:aE)(h:Code w A n c):iR aK 48 #[.slice A n c] w (Opened w):=by
 have hl:=h.le;have qB:=h.cap;unfold maxLen at qB;by_cases hn:2000<n
 .obtain⟨b,off,rfl,hb,hj⟩:=h.at_ aC
  clear hj
  go_enter zro,zws
  go_wp2;go_ret;exact⟨_,_,2000,c,rfl,⟨0,aC,gU _ _,zrA h aC aC _,aC⟩,eD (fN _ _) _,bN _⟩
 .go_enter zro,zws
  go_wp2;go_ret;exact⟨_,A,n,c,rfl,⟨0,aC,gU _ _,zrA h aC aC _,aC⟩,eD (fN _ _) _,bN _⟩
end Go.Proofs.YtfcjiloojkjaeaaGreatDoor
namespace Go.Proofs.YtfcjiloojkjaeaaGreatDoor
open Go.Joins Go.ChangeShapes Go.WideShapes Go.RowKit Go.Deep
section
variable {H:Type}{enc:aM×aF->H}{P:bT}{w:aE}{base:Nat}{held:Bool}
variable {p:List MemPlace}
theorem zHL {t e:aM}{A:Option bD}{len cap:Nat}{d:DataW H}(ht:P.underlying t=some (.slice e))(he:P.underlying e=some (.int .u8))(hc:P.cellsOf e=1)
 (h:DataW.Trod enc P w base (λ_=>true) held t (.slice A len cap) d p):Code w A len cap:=by
 obtain⟨fuel,hf⟩:=h;rcases open_ints ht he hc hf with⟨iW,_⟩|⟨a,len',Ol,zs,iW,_,hl,hm,hz,_,hcell,sM⟩
 .simp[U8] at iW
  obtain⟨rfl,rfl,rfl⟩:=iW;exact⟨bN _,mP _,λh0=>absurd h0 aC⟩
 .simp[U8] at iW
  obtain⟨rfl,rfl,rfl⟩:=iW;simp only[if_true] at hz;refine⟨hl,hm,λh0=>?_⟩;obtain⟨b,off,spot⟩:=a;have h1:=hcell 0 aC;have zDP:spot=none:=by simpa[zez] using aE.cell?_spot h1
  subst zDP;have hb:b<w.heap.size:=by have:=aE.block_lt_of_cell? w _ h1;rw[add_plain] at this;exact this
  refine⟨b,off,rfl,hb,λj hj=>?_⟩;have h2:=hcell j aC;rw[add_plain] at h2;have h3:=range_u8 sM j;rw[<-List.getD_eq_getElem?_getD] at h3;exact⟨_,h2,h3.1,h3.2⟩
end
end Go.Proofs.YtfcjiloojkjaeaaGreatDoor
namespace Go.Proofs.YtfcjiloojkjaeaaGreatDoor
open Go.ChangeShapes Go.WideShapes Go.ChangeAt Go.RowKit
section
variable {P:bT}{w:aE}{base:Nat}
theorem zyX {t e:aM}{A:Option bD}{n c:Nat}{r:Reach}(ht:P.underlying t=some (.slice e))(h:zrs P w r base t (.slice A n c)):∀a,A=some a->a.spot=none/\∃cs T fz,w.heap[a.block]? =some (.cells cs T fz):=by
 intro a e;subst e;simp only[zrs,ht,Cell.okWide,Cell.ok,aE.has] at h;obtain⟨_,_,_,Jx,row,cells,mV,_⟩:=h;refine⟨Jx,?_⟩;unfold zag at mV;split at mV
 .rename_i cs T fz hb
  exact⟨cs,T,fz,hb⟩
 .cases mV
end
end Go.Proofs.YtfcjiloojkjaeaaGreatDoor
namespace Go.Proofs.YtfcjiloojkjaeaaGreatDoor
open Go.RowKit
structure bO where
 c:Int
 l:Int
 o:Int
 f:Int
 h:Int
 t:Int
 e:ByteArray
 deriving DecidableEq
def bO.cells (d:bO):List Value:=[.int .i64 d.c,.int .i64 d.l,.int .i64 d.o,.int .i64 d.f,.int .i64 d.h,.int .i64 d.t,.string d.e]
def recs (ds:List bO):List Value:=ds.flatMap bO.cells
def zwm (ds:List bO):(recs ds).length=ds.length*7:=J6 bO.cells (s:=7) (λ_=>rfl) ds
variable {ds:List bO}{k:Nat}{d:bO}
theorem zFU (h:ds[k]? =some d):(recs ds)[k*7+0]? =some (.int .i64 d.c)/\(recs ds)[k*7+1]? =some (.int .i64 d.l)/\(recs ds)[k*7+2]? =some (.int .i64 d.o)/\(recs ds)[k*7+3]? =some (.int .i64 d.f)/\(recs ds)[k*7+4]? =some (.int .i64 d.h)/\(recs ds)[k*7+5]? =some (.int .i64 d.t)/\(recs ds)[k*7+6]? =some (.string d.e):=by
 have e:=λi hi=>Ns bO.cells (s:=7) (λ_=>rfl) ds k i hi;unfold recs;rw[e 0 aC,e 1 aC,e 2 aC,e 3 aC,e 4 aC,e 5 aC,e 6 aC,h];exact⟨rfl,rfl,rfl,rfl,rfl,rfl,rfl⟩
variable {w:aE}{lo hi n c:Nat}{A:Option bD}
theorem cM.recLen (h:cM w lo hi 7 A n c (recs ds)):ds.length=n:=by
 have:=h.len;rw[zwm] at this;omega
structure RecAt (w:aE)(b off:Nat)(d:bO):Prop where
 c0:w.cell? ⟨b,off,none⟩=some (.int .i64 d.c)
 c1:w.cell? ⟨b,off+1,none⟩=some (.int .i64 d.l)
 c2:w.cell? ⟨b,off+2,none⟩=some (.int .i64 d.o)
 c3:w.cell? ⟨b,off+3,none⟩=some (.int .i64 d.f)
 c4:w.cell? ⟨b,off+4,none⟩=some (.int .i64 d.h)
 c5:w.cell? ⟨b,off+5,none⟩=some (.int .i64 d.t)
 c6:w.cell? ⟨b,off+6,none⟩=some (.string d.e)
theorem cM.recAt (h:cM w lo hi 7 A n c (recs ds))(hk:k<n):
 ∃b off d,A=some ⟨b,off,none⟩/\lo<=b/\b<hi/\b<w.heap.size/\ds[k]? =some d/\RecAt w b (off+k*7) d:=by
 obtain⟨b,off,e,h1,h2,h3,h4⟩:=h.cells hk;have hl:k<ds.length:=by rw[h.recLen];exact hk
 obtain⟨g0,g1,g2,g3,g4,g5,g6⟩:=zFU (oX hl);exact⟨b,off,ds[k],e,h1,h2,h3,oX hl,⟨h4 0 _ g0,h4 1 _ g1,h4 2 _ g2,h4 3 _ g3,h4 4 _ g4,h4 5 _ g5,h4 6 _ g6⟩⟩
def recP (c l o f h t:Int)(e:List UInt8):Prop:=
 1<=c/\c<=99/\1<=l/\l<=6/\0<=o/\o<=4/\0<=f/\f<=3600/\
  (
   (e=[111,112,101,110]/\t= -1/\((o=0/\h= -1)\/(o≠0/\f<=h/\h<=3600)))\/
   (e=[100,111,110,101]/\o≠0/\f<=h/\h<=t/\t<=3600)\/
   ((e=[108,101,102,116]\/e=[116,105,114,101,100])/\o=0/\h= -1/\f<=t/\t<=3600))
instance (c l o f h t:Int)(e:List UInt8):Decidable (recP c l o f h t e):=by unfold recP;infer_instance
def recB (c l o f h t:Int)(e:List UInt8):Bool:=decide (recP c l o f h t e)
def overP (o f h t:Int)(e:List UInt8):Prop:=
 (e=[100,111,110,101]/\0<o/\f<=h/\h<=t/\t<=3600/\f<=t)\/
  ((e=[108,101,102,116]\/e=[116,105,114,101,100])/\o=0/\h= -1/\f<=t/\t<=3600)
instance (o f h t:Int)(e:List UInt8):Decidable (overP o f h t e):=by unfold overP;infer_instance
theorem cM.rec7 (h:cM w lo hi 7 A n c (recs ds))(hk:k<n):
 ∃b off d,A=some ⟨b,off,none⟩/\lo<=b/\b<hi/\b<w.heap.size/\ds[k]? =some d/\w.cell? ⟨b,off+k*7,none⟩=some (.int .i64 d.c)/\w.cell? ⟨b,off+k*7+1,none⟩=some (.int .i64 d.l)/\w.cell? ⟨b,off+k*7+2,none⟩=some (.int .i64 d.o)/\w.cell? ⟨b,off+k*7+3,none⟩=some (.int .i64 d.f)/\w.cell? ⟨b,off+k*7+4,none⟩=some (.int .i64 d.h)/\w.cell? ⟨b,off+k*7+5,none⟩=some (.int .i64 d.t)/\w.cell? ⟨b,off+k*7+6,none⟩=some (.string d.e):=by
 obtain⟨b,off,d,e,h1,h2,h3,hd,⟨c0,c1,c2,c3,c4,c5,c6⟩⟩:=h.recAt hk;exact⟨b,off,d,e,h1,h2,h3,hd,c0,c1,c2,c3,c4,c5,c6⟩
def zwj:(aK.info? 50).map (λi=>(i.zero,i.size,i.bytes))=some (some (.agg #[.int .i64 0,.int .i64 0,.int .i64 0,.int .i64 0,.int .i64 0,.int .i64 0,.string ⟨#[]⟩]),7,64):=aT
variable {α:Type}
theorem zyt {p:α->Bool}{l:List α}{a:α}(h:∀j,j<k->∀b,l[j]? =some b->p b=true)(hk:l[k]? =some a)(ha:p a=true):∀j,j<k+1->∀b,l[j]? =some b->p b=true:=by
 intro j hj b hb;by_cases e:j=k
 .subst e;rw[hk] at hb;injection hb with hb;subst hb;exact ha
 .exact h j aC b hb
theorem allF_of {p:α->Bool}{l:List α}(h:∀j,j<k->∀b,l[j]? =some b->p b=true)(hk:l.length<=k):l.all p=true:=by
 rw[List.all_eq_true];intro a ha;obtain⟨j,hj,e⟩:=Kq.1 ha;exact h j aC a (by rw[oX hj,e])
theorem zGu {p:α->Bool}{l:List α}{a:α}(hk:l[k]? =some a)(ha:p a=false):l.all p=false:=by
 rw[List.all_eq_false];exact⟨a,List.mem_of_getElem? hk,by simp[ha]⟩
structure bF where
 c:Int
 p:Int
 deriving DecidableEq
def bF.cells (x:bF):List Value:=[.int .i64 x.c,.int .i64 x.p]
def bG (xs:List bF):List Value:=xs.flatMap bF.cells
structure gG where
 ln:Int
 op:Int
 pt:Int
 deriving DecidableEq
structure dX where
 k:ByteArray
 a:Int
 b:Int
 deriving DecidableEq
def dX.cells (x:dX):List Value:=[.string x.k,.int .i64 x.a,.int .i64 x.b]
def sY (xs:List dX):List Value:=xs.flatMap dX.cells
def cS (d:bO):Bool:=d.e.toList==[111,112,101,110]
def Bn (c:Int)(d:bO):Bool:=d.c==c&&cS d
def gN (rs:List bO)(c:Int):Option Nat:=rs.findIdx? (Bn c)
def Gw:Option Nat->Int
 |some i=>(i:Int)
 |none=>-1
def xK (op:Int)(d:bO):Bool:=d.o==op&&cS d
def dL (rs:List bO)(op:Int):Int:=match rs.find? (xK op) with|some d=>d.c|none=>0
def rD (rs:List bO)(l:Int):Bool:=rs.any λd=>d.l==l&&cS d
def yA (rs:List bO)(n:Nat):List Int:=((List.range n).map λi:Nat=>(i:Int)+1).filter λl=>!rD rs l
def oM (o:gG)(rs:List bO):List Int:=yA rs o.ln.toNat
def tV (xs:List bF)(c:Int):Option Nat:=xs.findIdx? λx=>x.c==c
def dE (xs:List bF)(c:Int):List bF:=xs.filter λx=>x.c !=c
def sE (xs:List bF)(c:bF):List bF:=xs.takeWhile (λx=>decide (c.p<=x.p))++c::xs.dropWhile (λx=>decide (c.p<=x.p))
structure bY where
 o:gG
 clk:Int
 recs:List bO
 wait:List bF
 back:List bF
 log:List (List UInt8)
def vK:ByteArray:=⟨#[100,111,110,101]⟩
def vL:ByteArray:=⟨#[108,101,102,116]⟩
def tW:ByteArray:=⟨#[116,105,114,101,100]⟩
def dY:ByteArray:=⟨#[111,112,101,110]⟩
def vD (b:bY)(i:Nat)(e:ByteArray):List bO:=b.recs.modify i λd=>{d with t:=b.clk,e:=e}
def B7 (rs:List bO)(i:Nat):Int:=match rs[i]? with|some d=>d.c|none=>0
def lF (b:bY)(i:Nat)(e:ByteArray):bY:={b with recs:=vD b i e,wait:=dE b.wait (B7 b.recs i)}
def fW (n:Int):List UInt8:=Mc n
def oY (b:bY)(c:bF):bY×List UInt8:=
 if(gN b.recs c.c).isSome||(tV b.back c.c).isSome then(b,[107,110,111,119,110])
 else match oM b.o b.recs with
  |[]=>({b with back:=b.back++[c]},[98,117,115,121])
  |l::_=>({b with recs:=b.recs++[⟨c.c,l,0,b.clk,-1,-1,dY⟩],wait:=sE b.wait c},[108,105,110,101,32]++fW l)
def nH (b:bY)(op:Int):bY×List UInt8:=
 if 0<dL b.recs op then(b,[116,97,108,107,115])
 else match b.wait with
  |[]=>(b,[110,111,110,101])
  |c::_=>match gN b.recs c.c with
   |none=>(b,[])
   |some i=>({b with recs:=b.recs.modify i λd=>{d with o:=op,h:=b.clk},wait:=dE b.wait c.c},[99,97,108,108,32]++fW c.c)
def l7 (b:bY)(op:Int):bY×List UInt8:=
 if 0<dL b.recs op then(b,[116,97,108,107,115])
 else match b.back with
  |[]=>(b,[110,111,110,101])
  |c::_=>match oM b.o b.recs with
   |[]=>(b,[98,117,115,121])
   |l::_=>({b with back:=dE b.back c.c,recs:=b.recs++[⟨c.c,l,op,b.clk,b.clk,-1,dY⟩]},[99,97,108,108,32]++fW c.c)
def opAt (rs:List bO)(i:Nat):Int:=match rs[i]? with|some d=>d.o|none=>0
def mG (b:bY)(c:Int):bY×List UInt8:=
 match gN b.recs c with
 |some i=>if 0<opAt b.recs i then(lF b i vK,[100,111,110,101]) else(lF b i vL,[108,101,102,116])
 |none=>if(tV b.back c).isSome then({b with back:=dE b.back c},[111,102,102]) else(b,[103,111,110,101])
def Ww (rs:List bO)(i:Nat):Int:=match rs[i]? with|some d=>d.f|none=>0
def lW (bt:bY×List UInt8)(x:bF):bY×List UInt8:=
 match gN bt.1.recs x.c with
 |none=>bt
 |some i=>if bt.1.o.pt<=bt.1.clk-Ww bt.1.recs i then
  ({lF bt.1 i tW with back:=bt.1.back++[x]},bt.2++[32]++fW x.c) else bt
def tG (b:bY)(m:Int):bY×List UInt8:=b.wait.foldl lW ({b with clk:=b.clk+m},[97,116,32]++fW (b.clk+m))
def Bt:List UInt8:=[114,105,110,103]
def Eg:List UInt8:=[104,97,110,103]
def F7:List UInt8:=[97,110,115,119,101,114]
def C8:List UInt8:=[114,101,116,117,114,110]
def zc2:List UInt8:=[119,97,105,116]
def eF (b:bY)(e:dX):bY×List UInt8:=
 if e.k.toList=Bt then oY b ⟨e.a,e.b⟩ else if e.k.toList=F7 then nH b e.a else if e.k.toList=C8 then l7 b e.a else if e.k.toList=Eg then mG b e.a else tG b e.a
def Lm (ops:Int)(e:dX):Prop:=
 (e.k.toList=Bt/\1<=e.a/\e.a<=99/\0<=e.b/\e.b<=9)\/(e.k.toList=Eg/\1<=e.a/\e.a<=99/\e.b=0)\/((e.k.toList=F7\/e.k.toList=C8)/\1<=e.a/\e.a<=ops/\e.b=0)\/(e.k.toList=zc2/\1<=e.a/\e.a<=60/\e.b=0)
instance (ops:Int)(e:dX):Decidable (Lm ops e):=by unfold Lm;infer_instance
def qX (ops:Int)(e:dX):Bool:=decide (Lm ops e)
def rV (o:gG):Bool:=decide (1<=o.ln/\o.ln<=6/\1<=o.op/\o.op<=4/\1<=o.pt/\o.pt<=60)
def fJ (o:gG)(es:List dX):Bool:=rV o&&decide (es.length<=60)&&es.all (qX o.op)
def lY (o:gG):bY:=⟨o,0,[],[],[],[]⟩
def Fi (bt:bY×List UInt8):bY:={bt.1 with log:=bt.1.log++[bt.2]}
def F8 (o:gG)(es:List dX):bY:=es.foldl (λb e=>Fi (eF b e)) (lY o)
def wS (o:gG)(es:List dX):bY:=if fJ o es then F8 o es else lY o
variable {ds:List dX}
theorem cM.eventsLen (h:cM w lo hi 3 A n c (sY ds)):ds.length=n:=by
 have h1:=h.len;have h2:=J6 dX.cells (s:=3) (λ_=>rfl) ds;unfold sY at h1;omega
theorem cM.eventsAt (h:cM w lo hi 3 A n c (sY ds))(hk:k<n):
 ∃b off d,A=some ⟨b,off,none⟩/\lo<=b/\b<hi/\b<w.heap.size/\ds[k]? =some d/\w.cell? ⟨b,off+k*3,none⟩=some (.string d.k)/\w.cell? ⟨b,off+k*3+1,none⟩=some (.int .i64 d.a)/\w.cell? ⟨b,off+k*3+2,none⟩=some (.int .i64 d.b):=by
 have hl:=h.eventsLen;have hx:ds[k]? =some ds[k]:=oX aC;have g:∀i,i<3->(sY ds)[k*3+i]? =(ds[k].cells)[i]? :=λi hi=>by
  have:=Ns dX.cells (s:=3) (λ_=>rfl) ds k i hi;rw[hx] at this;exact this
 obtain⟨b,off,rfl,h1,h2,h3,h4⟩:=h.cells hk;exact⟨b,off,ds[k],rfl,h1,h2,h3,hx,h4 0 _ (g 0 aH),by rw[zcq];exact h4 1 _ (g 1 aH),by rw[zcq];exact h4 2 _ (g 2 aH)⟩
def txt (l:List UInt8):Value:=.string ⟨l.toArray⟩
def Gg (ss:List (List UInt8)):List Value:=ss.map txt
variable {ds:List bF}
theorem cM.callsLen (h:cM w lo hi 2 A n c (bG ds)):ds.length=n:=by
 have h1:=h.len;have h2:=J6 bF.cells (s:=2) (λ_=>rfl) ds;unfold bG at h1;omega
theorem cM.callsAt (h:cM w lo hi 2 A n c (bG ds))(hk:k<n):
 ∃b off d,A=some ⟨b,off,none⟩/\lo<=b/\b<hi/\b<w.heap.size/\ds[k]? =some d/\w.cell? ⟨b,off+k*2,none⟩=some (.int .i64 d.c)/\w.cell? ⟨b,off+k*2+1,none⟩=some (.int .i64 d.p):=by
 have hl:=h.callsLen;have hx:ds[k]? =some ds[k]:=oX aC;have g:∀i,i<2->(bG ds)[k*2+i]? =(ds[k].cells)[i]? :=λi hi=>by
  have:=Ns bF.cells (s:=2) (λ_=>rfl) ds k i hi;rw[hx] at this;exact this
 obtain⟨b,off,rfl,h1,h2,h3,h4⟩:=h.cells hk;exact⟨b,off,ds[k],rfl,h1,h2,h3,hx,h4 0 _ (g 0 aH),by rw[zcq];exact h4 1 _ (g 1 aH)⟩
variable {W0:aE}{a1 a2:bD}{v1 v2:aF}
def q9 {W:aE}(h:W.cell? a1=some v1/\W.cell? a2=some v2/\cD W0.heap.size W0 W):cD W0.heap.size W0 W:=h.2.2
def zsQ {W':aE}(z1:a1.block<W0.heap.size)(z2:a2.block<W0.heap.size)(h1:W0.cell? a1=some v1)(h2:W0.cell? a2=some v2)(hb:cD W0.heap.size W0 W'):W'.cell? a1=some v1/\W'.cell? a2=some v2/\cD W0.heap.size W0 W':=
 ⟨(Cv (hb.block _ z1)).trans h1,(Cv (hb.block _ z2)).trans h2,hb⟩
section
variable {P:bT}(w:aE)
theorem zAb (t ty:aM)(base:Nat)(e:aM)(i:xB)(z:aF)(size bytes:Nat)(ht:P.underlying t=some (.slice e))(hi:P.info? e=some i)(hz:i.zero=some z)
 (xI:i.size=size) (uG:i.bytes=bytes) (hzs:z.cells.size=size) (cK:0<size)
 (g0 n c0:Nat) (xs:List aF) (cZ:w.ownsRow base e size (.slice (some ⟨g0,0,none⟩) n c0) n xs)
 (A:Option bD) (m c lo mJ:Nat) (news:List aF) (hs:cM w lo mJ size A m c news) (h1:∀u∈news,u.oneCell'=true)
 (xN:n+m<=maxLen) (xF:(n+m)*bytes<=140737488355328) (rY:base<=w.heap.size):
 ∃g cap w',(wQ #[t,t] ty #[.slice (some ⟨g0,0,none⟩) n c0,.slice A m c]).run P w=.ok (.slice (some ⟨g,0,none⟩) (n+m) cap) w'/\
  w'.ownsRow base e size (.slice (some ⟨g,0,none⟩) (n+m) cap) (n+m) (xs++news)/\w.grownBy w' (K9 (.slice (some ⟨g0,0,none⟩) n c0))/\cD base w w':=by
 cases A with
 |none=>
  have hm:m=0:=by
   rcases Nat.eq_zero_or_pos m with h|h
   .exact h
   .obtain⟨b,off,e,_⟩:=hs.at_ h;cases e
  subst hm;have o9:news=[]:=by have:=hs.len;simp at this;exact this
  subst o9;have hle:n<=c0:=by
   obtain⟨_,h|⟨b,cap,cur,e,h1,h2,h3,_⟩⟩:=cZ
   .cases h.1
   .injection e with _ _ e;omega
  have hr:=run_append_room_src (P:=P) w t t ty e i ht hi g0 0 n c0 (.slice none 0 c) 0 [] (Src.ofNil (P:=P) (e':=e) w ht c) aC (by intro j hj;simp at hj) (by intro j hj;simp at hj);refine⟨g0,c0,w,by simpa[aE.setCells] using hr,by simpa using cZ,⟨rfl,rfl,rfl,bN _,λ_ _ _=>rfl⟩,fN _ _⟩
 |some ad=>
  by_cases hm:0<m
  .obtain⟨b,off,e',_,_,_,h4⟩:=hs.at_ hm
   injection e' with e';subst e';exact ziE w t ty base e i z size bytes ht hi hz xI uG hzs cK _ n xs cZ aQ _ m c news hs.len (λj u hu=>by rw[bD.add_lit];exact h4 j u hu) h1 xN xF rY
  .obtain rfl:m=0:=aC
   have o9:news=[]:=by have:=hs.len;simp at this;exact this
   subst o9;exact ziE w t ty base e i z size bytes ht hi hz xI uG hzs cK _ n xs cZ aQ _ 0 c [] aQ (λj u hu=>by simp at hu) (λu hu=>by cases hu) xN xF rY
variable {o:aZ}{a:Act}
theorem wp_apps {K:Act->aE->Prop}{Q:Exit->Act->aE->Prop}(s x:cI)(t:aM)
 (ho:o.op=.call {callee:=.builtin .append,args:=#[s,x],argTypes:=#[t,t]})
 (base:Nat) (e:aM) (i:xB) (z:aF) (size bytes:Nat) (ht:P.underlying t=some (.slice e)) (hi:P.info? e=some i) (hz:i.zero=some z)
 (xI:i.size=size) (uG:i.bytes=bytes) (hzs:z.cells.size=size) (cK:0<size)
 (g0 n c0:Nat) (xs:List aF) (zmV:a.eval s=.slice (some ⟨g0,0,none⟩) n c0) (cZ:w.ownsRow base e size (.slice (some ⟨g0,0,none⟩) n c0) n xs)
 (A:Option bD) (m c lo mJ:Nat) (news:List aF) (hx:a.eval x=.slice A m c) (hs:cM w lo mJ size A m c news) (h1:∀u∈news,u.oneCell'=true)
 (xN:n+m<=maxLen) (xF:(n+m)*bytes<=140737488355328) (rY:base<=w.heap.size)
 (h:∀g cap w',w'.ownsRow base e size (.slice (some ⟨g,0,none⟩) (n+m) cap) (n+m) (xs++news)->w.grownBy w' (K9 (.slice (some ⟨g0,0,none⟩) n c0))->cD base w w'->K (a.put o.dst (.slice (some ⟨g,0,none⟩) (n+m) cap)) w'):o.wp P a w K Q:=by
 obtain⟨g,cap,w',hr,h2,h3,h4⟩:=zAb (P:=P) w t o.type base e i z size bytes ht hi hz xI uG hzs cK g0 n c0 xs cZ A m c lo mJ news hs h1 xN xF rY;unfold Cy execOp;simp only[ho,resolve,invoke,builtin,E0,Jd,F9,uR,jG,tK,zmV,hx,hr];exact h g cap w' h2 h3 h4
theorem zga {ops:Array aZ}{K:Act->aE->Prop}{Q:Exit->Act->aE->Prop}{EE:Prop}(hw:dG o (dO ops a.tmps)=true)(s x:cI)(t:aM)
 (ho:o.op=.call {callee:=.builtin .append,args:=#[s,x],argTypes:=#[t,t]})
 (base:Nat) (e:aM) (i:xB) (z:aF) (size bytes:Nat) (ht:P.underlying t=some (.slice e)) (hi:P.info? e=some i) (hz:i.zero=some z)
 (xI:i.size=size) (uG:i.bytes=bytes) (hzs:z.cells.size=size) (cK:0<size)
 (g0 n c0:Nat) (xs:List aF) (zmV:a.eval s=.slice (some ⟨g0,0,none⟩) n c0) (cZ:w.ownsRow base e size (.slice (some ⟨g0,0,none⟩) n c0) n xs)
 (A:Option bD) (m c lo mJ:Nat) (news:List aF) (hx:a.eval x=.slice A m c) (hs:cM w lo mJ size A m c news) (h1:∀u∈news,u.oneCell'=true)
 (xN:n+m<=maxLen) (xF:(n+m)*bytes<=140737488355328) (rY:base<=w.heap.size)
 (h:∀g cap w',w'.ownsRow base e size (.slice (some ⟨g,0,none⟩) (n+m) cap) (n+m) (xs++news)->w.grownBy w' (K9 (.slice (some ⟨g0,0,none⟩) n c0))->cD base w w'->K (a.put o.dst (.slice (some ⟨g,0,none⟩) (n+m) cap)) w'):
 if dG o (dO ops a.tmps)=true then Cy P o a w K Q else EE:=by
 rw[if_pos hw];exact wp_apps w s x t ho base e i z size bytes ht hi hz xI uG hzs cK g0 n c0 xs zmV cZ A m c lo mJ news hx hs h1 xN xF rY h
end
theorem zbP {p:α->Bool}:∀{l:List α} {k:Nat} {a:α},l[k]? =some a->p a=true->(∀j,j<k->∀b,l[j]? =some b->p b=false)->l.findIdx? p=some k
 |[],k,a,h,_,_=>by simp at h
 |x::xs,0,a,h,ha,_=>by grind
 |x::xs,k+1,a,h,ha,hn=>by
  have hx:=hn 0 aC x rfl;rw[List.findIdx?_cons,hx,zbP (l:=xs) (k:=k) ze9 ha (λj hj b hb=>hn (j+1) aC b zdH)];simp
theorem zjM {p:α->Bool}{l:List α}(hn:∀j,j<k->∀b,l[j]? =some b->p b=false)(hk:l.length<=k):l.findIdx? p=none:=by
 rw[List.findIdx?_eq_none_iff];intro x hx;obtain⟨j,hj,e⟩:=Kq.1 hx;exact hn j aC x tJ
theorem zw8 {p:α->Bool}:∀{l:List α} {k:Nat} {a:α},l[k]? =some a->p a=true->(∀j,j<k->∀b,l[j]? =some b->p b=false)->l.find? p=some a
 |[],k,a,h,_,_=>by simp at h
 |x::xs,0,a,h,ha,_=>by simp_all
 |x::xs,k+1,a,h,ha,hn=>by
  have hx:=hn 0 aC x rfl;rw[List.find?_cons,hx];exact zw8 (l:=xs) (k:=k) ze9 ha (λj hj b hb=>hn (j+1) aC b zdH)
theorem find_no {p:α->Bool}{l:List α}(hn:∀j,j<k->∀b,l[j]? =some b->p b=false)(hk:l.length<=k):l.find? p=none:=by
 rw[List.find?_eq_none];intro x hx;obtain⟨j,hj,e⟩:=Kq.1 hx;rw[hn j aC x (by rw[oX hj,e])];simp
theorem Qv {p:α->Bool}{l:List α}{a:α}(h:∀j,j<k->∀b,l[j]? =some b->p b=false)(hk:l[k]? =some a)(ha:p a=false):∀j,j<k+1->∀b,l[j]? =some b->p b=false:=by grind
theorem Ko (lo hi n c:Nat)(A:Option bD)(rs:List bO)(q:Int)(w:aE)(h:cM w lo hi 7 A n c (recs rs))(hn:n<=1048576):
 iR aK 91 #[.slice A n c,.int .i64 q] w λe w'=>e=.returned (.int .i64 (Gw (gN rs q)))/\w'=w:=by
 have hl:=aD h.recLen
 go_enter Tryz.func91,Tryz.ntmps91
 go_wp2
 go_loop [5] (λi=>∃k:Nat,k<=n/\i=.int .i64 k/\∀j,j<k->∀b,rs[j]? =some b->Bn q b=false) (λi=>n-(intOf i).toNat)
 case atStart=>grind
 case round=>
  obtain⟨k,hk,rfl,iW⟩:=hrel;have HC:=aD iW;clear iW;by_cases aU:k<n
  .obtain⟨b,off,d,hA,_,_,h3,fI,gQ,pD,Av,Hc,Hk,nN,zdQ⟩:=h.rec7 aU
   subst hA;have HX:=aD fI;clear fI h pD Av Hc Hk nN h3;have i0:(0:Int)<=(k:Int):=aC;have i1:(k:Int)<(n:Int):=aC;cases hq:(d.c==q)
   .have HP:=aD (show Bn q d=false by unfold Bn;rw[hq];rfl)
    go_wp2
    go_round
    case rel=>exact⟨k+1,aC,oH,Qv HC.o HX.o HP.o⟩
    case measure=>simp[intOf];omega
   .cases hd:(d.e.toList==[111,112,101,110])
    .have HP:=aD (show Bn q d=false by unfold Bn cS;rw[hq,hd];rfl)
     go_wp2
     go_round
     case rel=>exact⟨k+1,aC,oH,Qv HC.o HX.o HP.o⟩
     case measure=>simp[intOf];omega
    .have HP:=aD (show Bn q d=true by unfold Bn cS;rw[hq,hd];rfl)
     go_wp2;go_ret;exact⟨Ie (by unfold gN;rw[zbP HX.o HP.o HC.o];rfl),rfl⟩
  .have e:k=n:=aC
   subst e;clear h;go_wp2;go_ret;exact⟨Ie (by unfold gN;rw[zjM HC.o zgW];rfl),rfl⟩
theorem Qz (lo hi n c:Nat)(A:Option bD)(rs:List bO)(q:Int)(w:aE)(h:cM w lo hi 7 A n c (recs rs))(hn:n<=1048576):
 iR aK 45 #[.slice A n c,.int .i64 q] w λe w'=>e=.returned (.int .i64 (dL rs q))/\w'=w:=by
 have hl:=aD h.recLen
 go_enter Tryz.func45,Tryz.ntmps45
 go_wp2
 go_loop [5] (λi=>∃k:Nat,k<=n/\i=.int .i64 k/\∀j,j<k->∀b,rs[j]? =some b->xK q b=false) (λi=>n-(intOf i).toNat)
 case atStart=>grind
 case round=>
  obtain⟨k,hk,rfl,iW⟩:=hrel;have HC:=aD iW;clear iW;by_cases aU:k<n
  .obtain⟨b,off,d,hA,_,_,h3,fI,gQ,pD,Av,Hc,Hk,nN,zdQ⟩:=h.rec7 aU
   subst hA;have HX:=aD fI;clear fI h pD Hc Hk nN h3;have i0:(0:Int)<=(k:Int):=aC;have i1:(k:Int)<(n:Int):=aC;cases hq:(d.o==q)
   .have HP:=aD (show xK q d=false by unfold xK;rw[hq];rfl)
    go_wp2
    go_round
    case rel=>exact⟨k+1,aC,oH,Qv HC.o HX.o HP.o⟩
    case measure=>simp[intOf];omega
   .cases hd:(d.e.toList==[111,112,101,110])
    .have HP:=aD (show xK q d=false by unfold xK cS;rw[hq,hd];rfl)
     go_wp2
     go_round
     case rel=>exact⟨k+1,aC,oH,Qv HC.o HX.o HP.o⟩
     case measure=>simp[intOf];omega
    .have HP:=aD (show xK q d=true by unfold xK cS;rw[hq,hd];rfl)
     go_wp2;go_ret;exact⟨Ie (by unfold dL;rw[zw8 HX.o HP.o HC.o]),rfl⟩
  .have e:k=n:=aC
   subst e;clear h;go_wp2;go_ret;exact⟨Ie (by unfold dL;rw[find_no HC.o zgW]),rfl⟩
theorem zbj (lo hi n c:Nat)(A:Option bD)(xs:List bF)(q:Int)(w:aE)(h:cM w lo hi 2 A n c (bG xs))(hn:n<=1048576):
 iR aK 92 #[.slice A n c,.int .i64 q] w λe w'=>e=.returned (.int .i64 (Gw (tV xs q)))/\w'=w:=by
 have hl:=aD h.callsLen
 go_enter Tryz.func92,Tryz.ntmps92
 go_wp2
 go_loop [5] (λi=>∃k:Nat,k<=n/\i=.int .i64 k/\∀j,j<k->∀b,xs[j]? =some b->(b.c==q)=false) (λi=>n-(intOf i).toNat)
 case atStart=>grind
 case round=>
  obtain⟨k,hk,rfl,iW⟩:=hrel;have HC:=aD iW;clear iW;by_cases aU:k<n
  .obtain⟨b,off,d,hA,_,_,h3,fI,gQ,pD⟩:=h.callsAt aU
   subst hA;have HX:=aD fI;clear fI h pD h3;have i0:(0:Int)<=(k:Int):=aC;have i1:(k:Int)<(n:Int):=aC;cases hq:(d.c==q)
   .have HP:=aD hq
    go_wp2
    go_round
    case rel=>exact⟨k+1,aC,oH,Qv HC.o HX.o HP.o⟩
    case measure=>simp[intOf];omega
   .have HP:=aD hq
    go_wp2;go_ret;exact⟨Ie (by unfold tV;rw[zbP HX.o HP.o HC.o];rfl),rfl⟩
  .have e:k=n:=aC
   subst e;clear h;go_wp2;go_ret;exact⟨Ie zpk,rfl⟩
def znr (E s:Nat)(w:aE)(m:Nat)(xs:List aF)(v:aF)(w':aE):Prop:=∃g cp,v=.slice (some ⟨g,0,none⟩) m cp/\w'.ownsRow w.heap.size E s (.slice (some ⟨g,0,none⟩) m cp) m xs/\cD w.heap.size w w'
theorem zyb (bs:List bF)(b:bF):bG (bs++[b])=bG bs++b.cells:=by simp[bG]
def zhk:(aK.info? 100).map (λi=>(i.zero,i.size,i.bytes))=some (some (.agg #[.int .i64 0,.int .i64 0]),2,16):=aT
theorem zCi {xs:List bF}{d:bF}(q:Int)(h:xs[k]? =some d):dE (xs.take (k+1)) q=dE (xs.take k) q++(if d.c !=q then[d] else[]):=by
 unfold dE;rw[Nv,h,Ot];congr 1;simp[zsN]
theorem zd8 (lo hi n c:Nat)(A:Option bD)(xs:List bF)(q:Int)(w:aE)(h:cM w lo hi 2 A n c (bG xs))(hn:n<=100000):
 iR aK 95 #[.slice A n c,.int .i64 q] w λe w'=>∃v,e=.returned v/\znr 100 2 w (dE xs q).length (bG (dE xs q)) v w':=by
 have hl:=aD h.callsLen;obtain⟨i0,fH,fV,dM,jJ⟩:=Cg zhk;have HI:=aD (And.intro fH (And.intro fV (And.intro dM jJ)));clear fH fV dM jJ
 go_enter Tryz.func95,Tryz.ntmps95
 go_wp2
 go_loopw [5,6] (λv i wr=>∃(k g L cl:Nat),k<=n/\i=.int .i64 k/\L=(dE (xs.take k) q).length/\v=.slice (some ⟨g,0,none⟩) L cl/\cD w.heap.size w wr/\wr.ownsRow w.heap.size 100 2 (.slice (some ⟨g,0,none⟩) L cl) L (bG (dE (xs.take k) q))) (λ_ i _=>n-(intOf i).toNat)
 case atStart=>exact⟨0,w.heap.size,0,0,mP _,rfl,rfl,rfl,eD (fN _ _) _,Oy (bN _) (gU _ _)⟩
 case round=>
  obtain⟨k,g,L,cl,hk,rfl,hL,rfl,B,cZ⟩:=hrel;have HL:=aD hL;have Ty:=aD cZ;have HB:=aD B;have zBV:=B.size;have hlen:L<=k:=by rw[hL];unfold dE;exact eM (za5 _ _) pR
  clear hL cZ;by_cases aU:k<n
  .obtain⟨b,off,d,hA,_,_,h3,fI,gQ,pD⟩:=(h.below B).callsAt aU
   subst hA;have HF:=aD (zCi q fI);clear fI h h3 B;have zzr:(0:Int)<=(k:Int):=aC;have i1:(k:Int)<(n:Int):=aC;cases hq:(d.c !=q)
   .rw[hq] at HF
    have HN:=aD (show dE (xs.take (k+1)) q=dE (xs.take k) q by rw[HF.o];simp);go_wp2;go_roundw
    case rel=>exact⟨k+1,g,L,cl,aC,oH,by rw[HN.o];exact HL.o,rfl,HB.o,by rw[HN.o];exact Ty.o⟩
    case measure=>simp[intOf];omega
   .rw[hq] at HF
    have HN:=aD (show dE (xs.take (k+1)) q=dE (xs.take k) q++[d] by rw[HF.o];simp);obtain⟨fH,fV,dM,jJ⟩:=HI.o;have HH:=aD fH;clear fH
    go_wp2_with (at_builtin;refine zqX _ rfl (.tmp 21) (.tmp 26) 57 rfl w.heap.size 100 i0 (.agg #[.int .i64 0,.int .i64 0]) 2 16 Ll HH.o fV dM jJ rfl aH (.slice (some ⟨g,0,none⟩) L cl) L (bG (dE (xs.take k) q)) rfl (Br Ty.o ?c1) aQ ⟨_,0,none⟩ 1 1 (bF.cells d) rfl rfl ?c2 Qq ?c5 ?c6 ?c7 ?_;(case c1=>exact λb hb=>rS _ _ b hb);(case c2=>exact Fc (cs:=(bF.cells d).toArray) (lV _ _ aQ));(case c5=>unfold maxLen;omega);(case c6=>omega);(case c7=>(simp;omega));intro g1 c1 w1 sG rT B1;have Ca:=aD sG;have gJ:=aD B1;clear sG rT B1)
    go_roundw
    case rel=>
     refine⟨k+1,g1,L+1,c1,aC,oH,by rw[HN.o,HL.o];simp,rfl,(eD HB.o _).trans gJ.o,?_⟩;rw[HN.o,zyb];exact Ca.o
    case measure=>simp[intOf];omega
  .have e:k=n:=aC
   subst e;have HT:=aD (show xs.take k=xs by rw[Ee zgW]);clear h B;go_wp2;go_ret;refine⟨_,rfl,g,cl,by rw[HL.o,HT.o];rfl,?_,HB.o⟩;have:=Ty.o;rw[HL.o,HT.o] at this;exact this
section
variable {P:bT}(w:aE)
theorem zfC (t ty:aM)(base:Nat)(e:aM)(i:xB)(z:aF)(size bytes:Nat)(ht:P.underlying t=some (.slice e))(hi:P.info? e=some i)(hz:i.zero=some z)
 (xI:i.size=size) (uG:i.bytes=bytes) (hzs:z.cells.size=size) (cK:0<size)
 (gv cv n:Nat) (xs:List aF) (cZ:w.ownsRow base e size (.slice (some ⟨gv,0,none⟩) n cv) n xs)
 (ad:bD) (m c:Nat) (news:List aF) (hl:news.length=m*size) (E6:∀j u,news[j]? =some u->w.cell? (ad.add j)=some u) (h1:∀u∈news,u.oneCell'=true)
 (xN:n+m<=maxLen) (xF:(n+m)*bytes<=140737488355328) (rY:base<=w.heap.size):
 ∃g cap w',(wQ #[t,t] ty #[.slice (some ⟨gv,0,none⟩) n cv,.slice (some ad) m c]).run P w=.ok (.slice (some ⟨g,0,none⟩) (n+m) cap) w'/\
  w'.ownsRow base e size (.slice (some ⟨g,0,none⟩) (n+m) cap) (n+m) (xs++news)/\w.grownBy w' (some gv)/\cD base w w'/\(g=gv\/g=w.heap.size):=by
 obtain⟨v',w',hr,h2,h3,h4,h5⟩:=zt8 (P:=P) w base t ty e i z size bytes ht hi hz xI uG hzs cK _ n xs cZ ad m c news hl E6 h1 xN xF rY;obtain⟨g,cap,rfl⟩:=ziR h2 (λh=>by have:=(h4.1 h).1;cases this);refine⟨g,cap,w',hr,h2,h3,ztJ cZ h3 rY,?_⟩;rcases h5 with h5|h5
 .exact .inl (by simpa[K9] using h5)
 .exact .inr (by simpa[K9] using h5)
variable {o:aZ}{a:Act}
theorem wp_app2 {K:Act->aE->Prop}{Q:Exit->Act->aE->Prop}(s x:cI)(t:aM)
 (ho:o.op=.call {callee:=.builtin .append,args:=#[s,x],argTypes:=#[t,t]})
 (base:Nat) (e:aM) (i:xB) (z:aF) (size bytes:Nat) (ht:P.underlying t=some (.slice e)) (hi:P.info? e=some i) (hz:i.zero=some z)
 (xI:i.size=size) (uG:i.bytes=bytes) (hzs:z.cells.size=size) (cK:0<size)
 (gv cv n:Nat) (xs:List aF) (hs:a.eval s=.slice (some ⟨gv,0,none⟩) n cv) (cZ:w.ownsRow base e size (.slice (some ⟨gv,0,none⟩) n cv) n xs)
 (ad:bD) (m c:Nat) (news:List aF) (hx:a.eval x=.slice (some ad) m c) (hl:news.length=m*size) (E6:∀j u,news[j]? =some u->w.cell? (ad.add j)=some u) (h1:∀u∈news,u.oneCell'=true)
 (xN:n+m<=maxLen) (xF:(n+m)*bytes<=140737488355328) (rY:base<=w.heap.size)
 (h:∀g cap w',w'.ownsRow base e size (.slice (some ⟨g,0,none⟩) (n+m) cap) (n+m) (xs++news)->w.grownBy w' (some gv)->cD base w w'->(g=gv\/g=w.heap.size)->K (a.put o.dst (.slice (some ⟨g,0,none⟩) (n+m) cap)) w'):o.wp P a w K Q:=by
 obtain⟨g,cap,w',hr,h2,h3,h4,h5⟩:=zfC (P:=P) w t o.type base e i z size bytes ht hi hz xI uG hzs cK gv cv n xs cZ ad m c news hl E6 h1 xN xF rY;unfold Cy execOp;simp only[ho,resolve,invoke,builtin,E0,Jd,F9,uR,jG,tK,hs,hx,hr];exact h g cap w' h2 h3 h4 h5
def zhX {ops:Array aZ}{rest:List aZ}{Q:Exit->Act->aE->Prop}(Eu:o.guard=none)(s x:cI)(t:aM)
 (ho:o.op=.call {callee:=.builtin .append,args:=#[s,x],argTypes:=#[t,t]})
 (base:Nat) (e:aM) (i:xB) (z:aF) (size bytes:Nat) (ht:P.underlying t=some (.slice e)) (hi:P.info? e=some i) (hz:i.zero=some z)
 (xI:i.size=size) (uG:i.bytes=bytes) (hzs:z.cells.size=size) (cK:0<size)
 (gv cv n:Nat) (xs:List aF) (hs:a.eval s=.slice (some ⟨gv,0,none⟩) n cv) (cZ:w.ownsRow base e size (.slice (some ⟨gv,0,none⟩) n cv) n xs)
 (ad:bD) (m c:Nat) (news:List aF) (hx:a.eval x=.slice (some ad) m c) (hl:news.length=m*size) (E6:∀j u,news[j]? =some u->w.cell? (ad.add j)=some u) (h1:∀u∈news,u.oneCell'=true)
 (xN:n+m<=maxLen) (xF:(n+m)*bytes<=140737488355328) (rY:base<=w.heap.size)
 (h:∀g cap w',w'.ownsRow base e size (.slice (some ⟨g,0,none⟩) (n+m) cap) (n+m) (xs++news)->w.grownBy w' (some gv)->cD base w w'->(g=gv\/g=w.heap.size)->wpList P ops Q rest (a.put o.dst (.slice (some ⟨g,0,none⟩) (n+m) cap)) w'):wpList P ops Q (o::rest) a w:=
 wpList_plain Eu λ_ hK=>wp_app2 w s x t ho base e i z size bytes ht hi hz xI uG hzs cK gv cv n xs hs cZ ad m c news hx hl E6 h1 xN xF rY λg cap w' h2 h3 h4 h5=>hK _ _ (h g cap w' h2 h3 h4 h5)
end
structure fO where
 gR:Nat
 cR:Nat
 gW:Nat
 cW:Nat
 gB:Nat
 cB:Nat
 gL:Nat
 cL:Nat
abbrev fO.sR (v:fO)(r:bY):Value:=.slice (some ⟨v.gR,0,none⟩) r.recs.length v.cR
abbrev fO.sW (v:fO)(r:bY):Value:=.slice (some ⟨v.gW,0,none⟩) r.wait.length v.cW
abbrev fO.sB (v:fO)(r:bY):Value:=.slice (some ⟨v.gB,0,none⟩) r.back.length v.cB
abbrev fO.sL (v:fO)(r:bY):Value:=.slice (some ⟨v.gL,0,none⟩) r.log.length v.cL
abbrev fP (v:fO)(r:bY):Array Value:=#[.int .i64 r.o.ln,.int .i64 r.o.op,.int .i64 r.o.pt,.int .i64 r.clk,v.sR r,v.sW r,v.sB r,v.sL r]
abbrev H6 (v:fO)(r:bY):Obj:=.cells (fP v r) 59
structure dR (w:aE)(lo:Nat)(v:fO)(r:bY):Prop where
 rc:w.ownsRow lo 50 7 (v.sR r) r.recs.length (recs r.recs)
 wt:w.ownsRow lo 100 2 (v.sW r) r.wait.length (bG r.wait)
 bk:w.ownsRow lo 100 2 (v.sB r) r.back.length (bG r.back)
 lg:w.ownsRow lo 9 1 (v.sL r) r.log.length (Gg r.log)
 ap:v.gR≠v.gW/\v.gR≠v.gB/\v.gR≠v.gL/\v.gW≠v.gB/\v.gW≠v.gL/\v.gB≠v.gL
structure oL (v:fO)(w w':aE):Prop where
 os:w'.os=w.os
 tape:w'.tape=w.tape
 output:w'.output=w.output
 size:w.heap.size<=w'.heap.size
 block:∀b,b<w.heap.size->b≠v.gR->b≠v.gB->w'.heap[b]? =w.heap[b]?
structure xC (n:Nat)(v v':fO):Prop where
 r:v'.gR=v.gR\/n<=v'.gR
 w:v'.gW=v.gW\/n<=v'.gW
 b:v'.gB=v.gB\/n<=v'.gB
 l:v'.gL=v.gL
section
variable {w w' Ft:aE}{lo:Nat}{v v' zcb:fO}{r:bY}
def oL.of_below (v:fO)(h:cD w.heap.size w w'):oL v w w':=⟨h.os,h.tape,h.output,h.size,λb hb _ _=>h.block b hb⟩
theorem oL.trans {n:Nat}(h:oL v w w')(k:oL v' w' Ft)(m:xC n v v')(hn:w.heap.size<=n):oL v w Ft:=
 ⟨k.os.trans h.os,k.tape.trans h.tape,k.output.trans h.output,eM h.size k.size,λb hb h1 h2=>(k.block b (jW hb h.size) (λe=>by rcases m.r with x|x<;>omega) (λe=>by rcases m.b with x|x<;>omega)).trans (h.block b hb h1 h2)⟩
def oL.same (h:oL v w w')(k:oL v w' Ft):oL v w Ft:=
 ⟨k.os.trans h.os,k.tape.trans h.tape,k.output.trans h.output,eM h.size k.size,λb hb h1 h2=>(k.block b (jW hb h.size) h1 h2).trans (h.block b hb h1 h2)⟩
def xC.refl (n:Nat)(v:fO):xC n v v:=⟨.inl rfl,.inl rfl,.inl rfl,rfl⟩
theorem xC.trans {n m:Nat}(h:xC n v v')(k:xC m v' zcb)(hm:n<=m):xC n v zcb:=
 ⟨
  k.r.elim (λe=>h.r.imp (λx=>e.trans x) (λx=>by omega)) (λx=>.inr aC),k.w.elim (λe=>h.w.imp (λx=>e.trans x) (λx=>by omega)) (λx=>.inr aC),
  k.b.elim (λe=>h.b.imp (λx=>e.trans x) (λx=>by omega)) (λx=>.inr aC),k.l.trans h.l⟩
def dR.keep (h:dR w lo v r)(k:∀b,b<w.heap.size->w'.heap[b]? =w.heap[b]?):dR w' lo v r:=⟨Br h.rc k,Br h.wt k,Br h.bk k,Br h.lg k,h.ap⟩
def dR.below (h:dR w lo v r)(k:cD w.heap.size w w'):dR w' lo v r:=h.keep λb hb=>k.block b hb
def dR.alloc (h:dR w lo v r)(o:pX):dR (w.alloc o) lo v r:=h.keep λb hb=>rS w o b hb
def dR.lts (h:dR w lo v r):lo<=v.gR/\v.gR<w.heap.size/\lo<=v.gW/\v.gW<w.heap.size/\lo<=v.gB/\v.gB<w.heap.size/\lo<=v.gL/\v.gL<w.heap.size:=
 ⟨(h.rc.lt _ rfl).1,(h.rc.lt _ rfl).2,(h.wt.lt _ rfl).1,(h.wt.lt _ rfl).2,(h.bk.lt _ rfl).1,(h.bk.lt _ rfl).2,(h.lg.lt _ rfl).1,(h.lg.lt _ rfl).2⟩
def dR.slcR (h:dR w lo v r):cM w lo w.heap.size 7 (some ⟨v.gR,0,none⟩) r.recs.length v.cR (recs r.recs):=As h.rc aH
def dR.slcW (h:dR w lo v r):cM w lo w.heap.size 2 (some ⟨v.gW,0,none⟩) r.wait.length v.cW (bG r.wait):=As h.wt aH
def dR.slcB (h:dR w lo v r):cM w lo w.heap.size 2 (some ⟨v.gB,0,none⟩) r.back.length v.cB (bG r.back):=As h.bk aH
def dR.clock (h:dR w lo v r)(k:Int):dR w lo v {r with clk:=k}:=⟨h.rc,h.wt,h.bk,h.lg,h.ap⟩
variable {xs:List bF}
theorem dR.newW {m g c:Nat}(h:dR w lo v r)(hk:∀b,b<w.heap.size->w'.heap[b]? =w.heap[b]?)(ho:w'.ownsRow lo 100 2 (.slice (some ⟨g,0,none⟩) m c) m (bG xs))(hm:m=xs.length)(hg:w.heap.size<=g):
 dR w' lo {v with gW:=g,cW:=c} {r with wait:=xs}:=by
 have l:=h.lts;have k:=h.keep hk;subst hm;exact⟨k.rc,ho,k.bk,k.lg,by have:=h.ap;simp only;omega⟩
theorem dR.newB {m g c:Nat}(h:dR w lo v r)(hk:∀b,b<w.heap.size->w'.heap[b]? =w.heap[b]?)(ho:w'.ownsRow lo 100 2 (.slice (some ⟨g,0,none⟩) m c) m (bG xs))(hm:m=xs.length)(hg:w.heap.size<=g):
 dR w' lo {v with gB:=g,cB:=c} {r with back:=xs}:=by
 have l:=h.lts;have k:=h.keep hk;subst hm;exact⟨k.rc,k.wt,ho,k.lg,by have:=h.ap;simp only;omega⟩
theorem dR.appB {m g c:Nat}{x:bF}(h:dR w lo v r)(hg:w.grownBy w' (some v.gB))(ho:w'.ownsRow lo 100 2 (.slice (some ⟨g,0,none⟩) m c) m (bG r.back++x.cells))(hm:m=r.back.length+1)(hw:g=v.gB\/w.heap.size<=g):
 dR w' lo {v with gB:=g,cB:=c} {r with back:=r.back++[x]}:=by
 have l:=h.lts;have a:=h.ap;subst hm;refine⟨h.rc.kept hg (.inr Gy),h.wt.kept hg (.inr Gy),?_,h.lg.kept hg (.inr Gy),by simp only;omega⟩;have e:bG (r.back++[x])=bG r.back++x.cells:=zyb _ _
 grind
theorem dR.appR {m g c:Nat}{x:bO}(h:dR w lo v r)(hg:w.grownBy w' (some v.gR))(ho:w'.ownsRow lo 50 7 (.slice (some ⟨g,0,none⟩) m c) m (recs r.recs++x.cells))(hm:m=r.recs.length+1)(hw:g=v.gR\/w.heap.size<=g):
 dR w' lo {v with gR:=g,cR:=c} {r with recs:=r.recs++[x]}:=by
 have l:=h.lts;have a:=h.ap;subst hm;refine⟨?_,h.wt.kept hg (.inr Gy),h.bk.kept hg (.inr Gy),h.lg.kept hg (.inr Gy),by simp only;omega⟩;have e:recs (r.recs++[x])=recs r.recs++x.cells:=by simp[recs]
 grind
theorem dR.appL {m g c:Nat}{x:List UInt8}(h:dR w lo v r)(hg:w.grownBy w' (some v.gL))(ho:w'.ownsRow lo 9 1 (.slice (some ⟨g,0,none⟩) m c) m (Gg r.log++[.string ⟨x.toArray⟩]))(hm:m=r.log.length+1)(hw:g=v.gL\/w.heap.size<=g):
 dR w' lo {v with gL:=g,cL:=c} {r with log:=r.log++[x]}:=by
 have l:=h.lts;have a:=h.ap;subst hm;refine⟨h.rc.kept hg (.inr Gy),h.wt.kept hg (.inr Gy),h.bk.kept hg (.inr Gy),?_,by simp only;omega⟩;have e:Gg (r.log++[x])=Gg r.log++[.string ⟨x.toArray⟩]:=by simp[Gg,txt]
 grind
end
variable {rs:List bO}{i:Nat}{v:aF}
theorem zxG {j:Nat}{f:bO->bO}(hd:rs[i]? =some d)(hj:j<7)(hs:∀k,k<7->k≠j->(f d).cells[k]? =d.cells[k]?)(hv:(f d).cells[j]? =some v):(recs rs).set (i*7+j) v=recs (rs.modify i f):=by
 apply zpr;intro q;obtain⟨a,b,rfl,hb⟩:∃a b,q=a*7+b/\b<7:=⟨q/7,q%7,aC,aC⟩;have g:∀(l:List bO),(recs l)[a*7+b]? =(l[a]?).bind λx=>x.cells[b]? :=λl=>Ns bO.cells (s:=7) (λ_=>rfl) l a b hb;rw[List.getElem?_set,g,g,I9];have hlen:(recs rs).length=rs.length*7:=zwm rs
 grind
theorem zCU (l:Int)(h:rs[k]? =some d):rD (rs.take (k+1)) l=(rD (rs.take k) l||(d.l==l&&cS d)):=by
 unfold rD;rw[Nv,h];simp[List.any_append]
theorem zyn (rs:List bO)(n:Nat):yA rs (n+1)=yA rs n++(if rD rs ((n:Int)+1) then[] else[(n:Int)+1]):=by
 unfold yA;rw[List.range_succ,List.map_append,Ot];congr 1;simp only[jG,tK,zsN,List.filter_nil];cases rD rs ((n:Int)+1)<;>simp
theorem zhS (rs:List bO)(n:Nat):(yA rs n).length<=n:=by
 unfold yA;exact eM (za5 _ _) aQ
theorem zDm (xs:List Int)(x:Int):jQ (xs++[x])=jQ xs++[.int .i64 x]:=by simp[jQ]
def zDZ:(aK.info? 3).map (λi=>(i.zero,i.size,i.bytes))=some (some (.int .i64 0),1,8):=aT
def Bb {o:gG}(h:rV o=true):1<=o.ln/\o.ln<=6/\1<=o.op/\o.op<=4/\1<=o.pt/\o.pt<=60:=of_decide_eq_true h
theorem zpH (lo:Nat)(v:fO)(r:bY)(w:aE)(h:dR w lo v r)(hn:r.recs.length<=100000)(ho:rV r.o=true):
 iR aK 90 #[.agg (fP v r)] w λe w'=>∃x,e=.returned x/\znr 3 1 w (oM r.o r.recs).length (jQ (oM r.o r.recs)) x w':=by
 obtain⟨i0,fH,fV,dM,jJ⟩:=Cg zDZ;have HI:=aD (And.intro fH (And.intro fV (And.intro dM jJ)));clear fH fV dM jJ;obtain⟨l0,l1,-,-,-,-⟩:=Bb ho;have hs:=h.slcR;obtain⟨n,Da⟩:=aP r.recs.length;have zAi:n<=100000:=aC;have HN:=aD Da;obtain⟨rs,zhr⟩:=aP r.recs;have zJb:=aD zhr;obtain⟨gb,eR⟩:=aP w.heap.size;have fR:=aD eR;obtain⟨ln,yW⟩:=aP r.o.ln;have zwc:=aD yW;obtain⟨m,hm⟩:=aP (ln.toNat:Nat);have Yt:ln=(m:Int):=aC;obtain⟨O,hO⟩:=aP (.cells (fP v r) 59:pX);have lP:(w.alloc O).heap[gb]? =some (H6 v r):=by rw[hO,eR];exact gU _ _
 have B0:cD w.heap.size w (w.alloc O):=eD (fN _ _) O;have hz:(w.alloc O).heap.size=gb+1:=by rw[eR];simp
 have hF:oM r.o r.recs=yA rs m:=by unfold oM;rw[<-yW,<-zhr,<-hm]
 have HF:=aD hF;have U7:=aI lP 0;rw[<-Da,<-zhr] at hs;have zG4:=aD lP;have Ou:=aD B0;have HZ:=aD hz;rw[<-yW] at l0 l1;clear hF Da zhr eR yW hm h U7;have HO:=aD hO;have zH5:=aD Yt;rw[Yt] at l0 l1;clear hO lP B0 hz
 go_enter Tryz.func90,Tryz.ntmps90
 go_wp2_with fail
 rw[<-HO.o]
 go_loopw [3,4] (λx i wr=>∃(k g L cl:Nat),k<=m/\i=.int .i64 ((k:Int)+1)/\L=(yA rs k).length/\x=.slice (some ⟨g,0,none⟩) L cl/\cD (gb+1) (w.alloc O) wr/\wr.ownsRow (gb+1) 3 1 (.slice (some ⟨g,0,none⟩) L cl) L (jQ (yA rs k))) (λ_ i _=>1000-(intOf i).toNat)
 case atStart=>
  have hz:=HZ.o;refine⟨0,gb+1,0,0,mP _,aQ,rfl,by rw[fR.o],?_,Oy (bN _) (lV _ _ hz.symm)⟩;rw[<-hz];exact eD (fN _ _) _
 case round=>
  obtain⟨k,g,L,cl,hk,rfl,hL,rfl,B,cZ⟩:=hrel;have HL:=aD hL;have Ty:=aD cZ;have HB:=aD B;have zBV:=B.size;have hz:=HZ.o;have qL:=(B.block gb aC).trans zG4.o;have e0:=aI qL 0;have e4:=aI qL 4;have hlen:=zhS rs k;rw[<-hL] at hlen;have H7:=hs.below (Ou.o.trans (B.mono tJ));have Ya:wr.cell? ⟨w.heap.size,0,none⟩=some (.int .i64 (m:Int)):=by rw[<-fR.o,e0,<-zH5.o,zwc.o];rfl
  have zK0:wr.cell? ⟨w.heap.size,4,none⟩=some (.slice (some ⟨v.gR,0,none⟩) n v.cR):=by rw[<-fR.o,e4,HN.o];rfl
  have zgU:=aD (zyn rs k);have zBb:=aD H7.recLen;clear hL cZ e0 e4 qL B hz hs;by_cases aU:k<m
  .obtain⟨l,hl⟩:=aP ((k:Int)+1:Int)
   have zgy:1<=l:=aC;have zvO:l<=(m:Int):=aC;rw[<-hl] at zgU⊢;have zgQ:=aD hl;clear hl
   go_wp2_with fail
   go_loop [5,6] (λu i=>∃j:Nat,j<=n/\u=.bool (rD (rs.take j) l)/\i=.int .i64 j) (λ_ i=>n-(intOf i).toNat)
   case atStart=>exact⟨0,mP _,rfl,rfl⟩
   case round=>
    obtain⟨j,hj,rfl,rfl⟩:=hrel;by_cases zGS:j<n
    .obtain⟨b,off,d,hA,_,_,h3,fI,gQ,pD,Av,Hc,Hk,nN,zdQ⟩:=H7.rec7 zGS
     have HU:=aD (zCU l fI);have i0:(0:Int)<=(j:Int):=aC;have i1:(j:Int)<(n:Int):=aC;injection hA with hA;injection hA with Ad Ap;subst Ad Ap;simp only[rH] at pD zdQ;clear fI H7 gQ Av Hc Hk nN h3;cases hu:rD (rs.take j) l
     .rw[hu] at HU
      cases hq:(d.l==l)
      .have Fu:=aD (show rD (rs.take (j+1)) l=false by rw[HU.o,hq];rfl)
       go_wp2
       go_round
       case rel=>exact⟨j+1,aC,by rw[Fu.o],oH⟩
       case measure=>simp[intOf];omega
      .cases hd:(d.e.toList==[111,112,101,110])
       .have Fu:=aD (show rD (rs.take (j+1)) l=false by rw[HU.o,hq];unfold cS;rw[hd];rfl)
        go_wp2
        go_round
        case rel=>exact⟨j+1,aC,by rw[Fu.o],oH⟩
        case measure=>simp[intOf];omega
       .have Fu:=aD (show rD (rs.take (j+1)) l=true by rw[HU.o,hq];unfold cS;rw[hd];rfl)
        go_wp2
        go_round
        case rel=>exact⟨j+1,aC,by rw[Fu.o],oH⟩
        case measure=>simp[intOf];omega
     .rw[hu] at HU
      have Fu:=aD (show rD (rs.take (j+1)) l=true by rw[HU.o];rfl);clear pD zdQ;go_wp2
      go_round
      case rel=>exact⟨j+1,aC,by rw[Fu.o],oH⟩
      case measure=>simp[intOf];omega
    .have e:j=n:=aC
     subst e;have HT:=aD (show rs.take j=rs by rw[Ee (by rw[zBb.o];exact bN _)]);rw[HT.o];clear H7;obtain⟨u,hu⟩:=aP (rD rs l);rw[<-hu] at zgU⊢;clear hu;cases u
     .have Fu:=aD (show yA rs (k+1)=yA rs k++[l] by rw[zgU.o];rfl)
      obtain⟨fH,fV,dM,jJ⟩:=HI.o;have HH:=aD fH;have zhe:=HZ.o;clear fH
      go_wp2_with (at_builtin;refine zqX _ rfl (.tmp 44) (.tmp 46) 38 rfl (gb+1) 3 i0 (.int .i64 0) 1 8 Tryz.underlying38 HH.o fV dM jJ rfl aH (.slice (some ⟨g,0,none⟩) L cl) L (jQ (yA rs k)) rfl (Br Ty.o ?c1) aQ ⟨_,0,none⟩ 1 1 [.int .i64 l] rfl rfl ?c2 Mk ?c5 ?c6 ?c7 ?_;(case c1=>exact λb hb=>rS _ _ b hb);(case c2=>exact Fc (cs:=#[.int .i64 l]) (lV _ _ aQ));(case c5=>unfold maxLen;omega);(case c6=>omega);(case c7=>(simp;omega));intro g1 c1 w1 sG rT B1;have Ca:=aD sG;have gJ:=aD B1;clear sG rT B1)
      go_roundw
      case rel=>
       refine⟨k+1,g1,L+1,c1,aC,by rw[zgQ.o];push_cast;rfl,by rw[Fu.o,HL.o];simp,rfl,?_,?_⟩
       .have b1:=HB.o
        exact(b1.alloc aC _).trans gJ.o
       .rw[Fu.o,zDm];exact Ca.o
      case measure=>have:=zgQ.o;simp[intOf];omega
     .have Fu:=aD (show yA rs (k+1)=yA rs k by rw[zgU.o];simp)
      go_wp2;go_roundw
      case rel=>exact⟨k+1,g,L,cl,aC,by rw[zgQ.o];push_cast;rfl,by rw[Fu.o];exact HL.o,rfl,HB.o,by rw[Fu.o];exact Ty.o⟩
      case measure=>have:=zgQ.o;simp[intOf];omega
  .have e:k=m:=aC
   subst e;clear H7;go_wp2;go_ret;refine⟨_,rfl,g,cl,by rw[HF.o,<-HL.o];rfl,?_,Ou.o.trans (HB.o.mono (by have:=fR.o;omega))⟩;rw[HF.o,<-HL.o];obtain⟨h1,h2⟩:=Ty.o;refine⟨h1,h2.imp id λ⟨b,cap,cur,e1,e2,e3⟩=>⟨b,cap,cur,e1,by have:=fR.o;omega,e3⟩⟩
variable {xs:List aF}{s:Nat}
theorem cM.takeS {g:Nat}(h:cM w lo hi s (some ⟨g,0,none⟩) n c xs)(hk:k<=n):cM w lo hi s (some ⟨g,0,none⟩) k c (xs.take (k*s)):=by
 refine⟨by rw[sU,h.len];exact Nat.min_eq_left (Nat.mul_le_mul_right _ hk),eM hk h.le,h.cap,λh0=>?_⟩;obtain⟨b,off,e,h1,h2,h3,h4⟩:=h.at_ aC;refine⟨b,off,e,h1,h2,h3,λj v hv=>h4 j v ?_⟩;rw[List.getElem?_take] at hv;split at hv
 .exact hv
 .cases hv
theorem cM.dropS {g:Nat}(h:cM w lo hi s (some ⟨g,0,none⟩) n c xs)(hk:k<=n):cM w lo hi s (some ⟨g,k*s,none⟩) (n-k) (c-k) (xs.drop (k*s)):=by
 refine⟨by rw[xY,h.len,Nat.sub_mul],by have:=h.le;omega,by have:=h.cap;omega,λh0=>?_⟩;obtain⟨b,off,e,h1,h2,h3,h4⟩:=h.at_ aC;injection e with e;injection e with e1 e2;subst e1 e2;refine⟨g,k*s,rfl,h1,h2,h3,λj v hv=>?_⟩;rw[List.getElem?_drop] at hv;have:=h4 (k*s+j) v hv
 rwa [rH] at this
theorem cM.dropI {g:Nat}(h:cM w lo hi s (some ⟨g,0,none⟩) n c xs)(hk:k<=n):cM w lo hi s (if c=k then some ⟨g,0,none⟩ else some ⟨g,k*s,none⟩) (n-k) (c-k) (xs.drop (k*s)):=by
 have d:=h.dropS hk;by_cases e:c=k
 .rw[if_pos e]
  exact⟨d.len,d.le,d.cap,λh0=>by have:=h.le;omega⟩
 .simp_all
theorem zrU (xs:List bF)(k:Nat):(bG xs).take (k*2)=bG (xs.take k):=by
 induction xs generalizing k with
 |nil=>simp[bG]
 |cons x xs ih=>
  cases k with
  |zero=>simp[bG]
  |succ k=>
   have e:(k+1)*2=k*2+1+1:=aC;rw[e];simp only[bG,zk3,bF.cells,Sr,zgp,List.take_succ_cons];have:=ih k;unfold bG at this;rw[this]
theorem zxe (xs:List bF)(k:Nat):(bG xs).drop (k*2)=bG (xs.drop k):=by
 induction xs generalizing k with
 |nil=>simp[bG]
 |cons x xs ih=>
  cases k with
  |zero=>simp[bG]
  |succ k=>
   have e:(k+1)*2=k*2+1+1:=aC;rw[e];simp only[bG,zk3,bF.cells,Sr,zgp,List.drop_succ_cons];have:=ih k;unfold bG at this;rw[this]
theorem zrr (xs ys:List bF):bG (xs++ys)=bG xs++bG ys:=by simp[bG]
theorem Zv (xs:List bF):∀u∈bG xs,u.oneCell'=true:=by
 intro u hu;obtain⟨d,_,hd⟩:=List.mem_flatMap.1 hu;simp only[bF.cells,List.mem_cons,List.not_mem_nil,or_false] at hd;rcases hd with rfl|rfl<;>rfl
theorem zr7 {xs:List bF}{x:bF}(hk:k<=xs.length)(h:∀j,j<k->∀b,xs[j]? =some b->x.p<=b.p)(hn:∀b,xs[k]? =some b->¬x.p<=b.p):sE xs x=xs.take k++x::xs.drop k:=by
 unfold sE
 induction xs generalizing k with
 |nil=>simp
 |cons y ys ih=>
  cases k with
  |zero=>simp_all
  |succ k=>
   have hy:=h 0 aC y rfl;have:=ih (k:=k) (by simpa using hk) (λj hj b hb=>h (j+1) aC b zdH) (λb hb=>hn b zdH);simp[List.takeWhile_cons,List.dropWhile_cons,hy,this]
def zf6 {W:aE}(h:W.cell? a1=some v1/\W.cell? a2=some v2/\cD W0.heap.size W0 W):cD W0.heap.size W0 W:=h.2.2
variable {u:aF}
def zwJ {a b:bD}(h:w.cell? a=some u)(k:w.cell? b=some v):w.cell? a=some u/\w.cell? b=some v:=⟨h,k⟩
theorem zIq (lo hi n c g:Nat)(xs:List bF)(x:bF)(w:aE)(h:cM w lo hi 2 (some ⟨g,0,none⟩) n c (bG xs))(hn:n<=100000):
 iR aK 93 #[.slice (some ⟨g,0,none⟩) n c,.agg #[.int .i64 x.c,.int .i64 x.p]] w λe w'=>∃v,e=.returned v/\znr 100 2 w (sE xs x).length (bG (sE xs x)) v w':=by
 have hl:=aD h.callsLen;have zsj:=aD h.le;obtain⟨i0,fH,fV,dM,jJ⟩:=Cg zhk;have HI:=aD (And.intro fH (And.intro fV (And.intro dM jJ)));clear fH fV dM jJ;obtain⟨gb,eR⟩:=aP w.heap.size;have fR:=aD eR;obtain⟨O,hO⟩:=aP (.cells #[.int .i64 x.c,.int .i64 x.p] 100:pX);have lP:(w.alloc O).heap[gb]? =some (.cells #[.int .i64 x.c,.int .i64 x.p] 100):=by rw[hO,eR];exact gU _ _
 have zP:=aD lP;have Ou:=aD (eD (fN w.heap.size w) O);have HO:=aD hO;clear eR hO lP
 go_enter Tryz.func93,Tryz.ntmps93
 go_wp2_with fail
 rw[<-HO.o,<-fR.o]
 go_loopw [5] (λi wr=>∃k:Nat,k<=n/\i=.int .i64 k/\cD (w.alloc O).heap.size (w.alloc O) wr/\∀j,j<k->∀b,xs[j]? =some b->x.p<=b.p) (λi _=>n-(intOf i).toNat)
 case atStart=>exact⟨0,mP _,rfl,fN _ _,λj hj=>absurd hj aC⟩
 case round=>
  obtain⟨k,hk,rfl,B,iW⟩:=hrel;have HC:=aD iW;have kg:=(mH B zP.o).1;have zg:=(mH B zP.o).2;have e0:=aI kg 0;have e1:=aI kg 1;have BW:=Ou.o.trans (B.mono Ou.o.size);have hs:=h.below BW;have zzr:(0:Int)<=(k:Int):=aC;have L5:=aD BW;have HB:=aD B;clear iW kg BW B;by_cases aU:k<n
  .obtain⟨b,off,d,hA,_,_,h3,fI,gQ,pD⟩:=hs.callsAt aU
   injection hA with hA;injection hA with Ad Ap;subst Ad Ap;simp only[rH] at gQ pD;have HX:=aD fI;have i1:(k:Int)<(n:Int):=aC;by_cases hp:x.p<=d.p
   .have HP:=aD hp
    have zGg:decide (x.p<=d.p)=true:=decide_eq_true hp;clear fI h hs h3 gQ hp
    go_wp2_with fail
    go_quiet (fail)
    go_wp2;go_roundw
    case rel=>exact⟨k+1,aC,oH,⟨HB.o.os,HB.o.tape,HB.o.output,HB.o.size,HB.o.block⟩,λj hj b hb=>by
     by_cases e:j=k
     .subst e;rw[HX.o] at hb;injection hb with hb;exact hb▸HP.o
     .exact HC.o j aC b hb⟩
    case measure=>simp[intOf];omega
   .have HQ:=aD (zr7 (x:=x) (k:=k) s9 HC.o (λb hb=>by simp_all))
    have zGg:decide (x.p<=d.p)=false:=decide_eq_false hp;clear fI h3 gQ hp
    go_wp2_with fail
    go_quiet (fail)
    go_wp2_with fail
    obtain⟨wq,sV⟩:=aP (wr.drewN nq);rw[<-sV];replace hs:cM wq lo hi 2 (some ⟨g,0,none⟩) n c (bG xs):=by rw[sV];exact⟨hs.len,hs.le,hs.cap,hs.at_⟩
    replace e0:wq.cell? ⟨gb,0,none⟩=some (.int .i64 x.c):=by rw[sV];exact e0
    replace e1:wq.cell? ⟨gb,1,none⟩=some (.int .i64 x.p):=by rw[sV];exact e1
    replace zg:gb<wq.heap.size:=by rw[sV];exact zg
    have zbk:=aD (show cD w.heap.size w wq by rw[sV];exact⟨L5.o.os,L5.o.tape,L5.o.output,L5.o.size,L5.o.block⟩);have zyd:=aD (show wr.heap.size<=wq.heap.size by simp_all);clear sV;have HN:=aD (bN wq.heap.size);have Fq:=aD (zrU xs k▸hs.takeS hk);have Ri:=aD (zxe xs k▸hs.dropI hk);have zx8:=aD zg;obtain⟨fH,fV,dM,jJ⟩:=HI.o;have HH:=aD fH;have nE:=zsj.o;have zch:=aD (zwJ e0 e1);have k1:(k:Int)<=(n:Int):=aC;have k2:(n:Int)<=(c:Int):=aC;have k3:(k:Int)<=(c:Int):=aC;clear fH hs h
    go_region_held3 (λW=>W.cell? ⟨gb,0,none⟩=some (.int .i64 x.c)/\W.cell? ⟨gb,1,none⟩=some (.int .i64 x.p)/\cD wq.heap.size wq W)
     ((refine zsQ zft zft zch.o.1 zch.o.2 ?_;(repeat' (first|with_reducible assumption|with_reducible exact zf6 zff|with_reducible exact fN _ _|with_reducible apply eD|with_reducible apply zfm));done))
     (first
      |(refine zga _ rfl (.tmp 22) (.tmp 25) 57 rfl wq.heap.size 100 i0 (.agg #[.int .i64 0,.int .i64 0]) 2 16 Ll HH.o fV dM jJ rfl aH _ 0 0 [] rfl (Oy ?c1 ?c2) (some ⟨g,0,none⟩) k c _ _ (bG (xs.take k)) rfl (Fq.o.below ?c3) (Zv _) ?c5 ?c6 ?c7 ?_;(case c1=>first|omega|(simp;done)|(simp;omega));(case c2=>((try with_reducible apply Kg);(first|with_reducible assumption|(with_reducible refine lV _ _ ?_;simp)|(with_reducible refine dD ?_ _;first|with_reducible assumption|(with_reducible refine lV _ _ ?_;simp))|(with_reducible refine dD ?_ _;with_reducible refine dD ?_ _;first|with_reducible assumption|(with_reducible refine lV _ _ ?_;simp))|(with_reducible refine dD ?_ _;with_reducible refine dD ?_ _;with_reducible refine dD ?_ _;first|with_reducible assumption|(with_reducible refine lV _ _ ?_;simp)))));(case c3=>(repeat' (first|with_reducible assumption|with_reducible exact zf6 zff|with_reducible exact fN _ _|with_reducible apply eD|with_reducible apply zfm)));(case c5=>unfold maxLen;omega);(case c6=>omega);(case c7=>first|omega|(simp;done)|(simp;omega));intro g1 zkh w9 sG rT B1;rw[rH];simp only[rH,zgp] at sG;have Ca:=aD sG;have qP:=aD rT;have BW:cD wq.heap.size wq w9:=cD.trans tJ B1;have z9:=BW.size;clear sG rT B1)
      |(refine zto _ rfl (.tmp 26) (.tmp 28) 57 rfl wq.heap.size 100 i0 (.agg #[.int .i64 0,.int .i64 0]) 2 16 Ll HH.o fV dM jJ rfl aH (.slice (some ⟨g1,0,none⟩) k zkh) k (bG (xs.take k)) rfl ?c1 aQ ⟨_,0,none⟩ 1 1 [.int .i64 x.c,.int .i64 x.p] rfl rfl (Fc (cs:=#[.int .i64 x.c,.int .i64 x.p]) (t:=100) (fr:=(0,0)) ?c2) (by simp[zvw]) ?c5 ?c6 ?c7 ?_;(case c1=>first|exact Ca.o|exact Br Ca.o (λb hb=>rS _ _ b hb));(case c2=>first|exact gU _ _|exact(qP.o.block _ zgS zol).trans (by((try with_reducible apply Kg);(first|with_reducible assumption|(with_reducible refine lV _ _ ?_;simp)|(with_reducible refine dD ?_ _;first|with_reducible assumption|(with_reducible refine lV _ _ ?_;simp))|(with_reducible refine dD ?_ _;with_reducible refine dD ?_ _;first|with_reducible assumption|(with_reducible refine lV _ _ ?_;simp))|(with_reducible refine dD ?_ _;with_reducible refine dD ?_ _;with_reducible refine dD ?_ _;first|with_reducible assumption|(with_reducible refine lV _ _ ?_;simp))))));(case c5=>unfold maxLen;omega);(case c6=>omega);(case c7=>first|omega|(simp;done)|(simp;omega));intro g2 zkw wE zac zjo B2;have zbm:=aD zac;have Tm:cD wq.heap.size wq wE:=cD.trans (by first|exact BW|exact eD BW _) B2;have zG3:=Tm.size;clear zac zjo B2)
      |(refine zga _ rfl (.tmp 29) (.tmp 32) 57 rfl wq.heap.size 100 i0 (.agg #[.int .i64 0,.int .i64 0]) 2 16 Ll HH.o fV dM jJ rfl aH g2 (k+1) zkw (bG (xs.take k)++[.int .i64 x.c,.int .i64 x.p]) rfl zbm.o (if c=k then some ⟨g,0,none⟩ else some ⟨g,k*2,none⟩) (n-k) (c-k) _ _ (bG (xs.drop k)) rfl (Ri.o.below Tm) (Zv _) ?c5 ?c6 ?c7 ?_;(case c5=>unfold maxLen;omega);(case c6=>omega);(case c7=>first|omega|(simp;done)|(simp;omega));intro g3 zhQ wI zaD zib B3;have Xb:=aD zaD;have Z4:cD wq.heap.size wq wI:=Tm.trans B3;have zAr:=Z4.size;clear zaD zib B3))
    all_goals go_wp2_with fail
    all_goals go_ret
    all_goals
     have zhe:=zbk.o.size;have eQ:(sE xs x).length=k+1+(n-k):=by
      rw[HQ.o,jP,sU,yH,xY,hl.o];omega
     refine⟨_,rfl,g3,zhQ,?_,?_,zbk.o.trans (Z4.mono zhe)⟩
     .rw[eQ];rfl
     .obtain⟨h1,h2⟩:=Xb.o
      have e:=eQ;have e2:bG (sE xs x)=bG (xs.take k)++[.int .i64 x.c,.int .i64 x.p]++bG (xs.drop k):=by rw[HQ.o,zrr];simp[bG,bF.cells]
      rw[e,e2];exact⟨h1,h2.imp id λ⟨b,cap,cur,e1,e2,e3⟩=>⟨b,cap,cur,e1,aC,e3⟩⟩
  .have HQ:=aD (zr7 (x:=x) (k:=k) (by rw[hl.o];exact hk) HC.o (λb hb=>by rw[List.getElem?_eq_none (by rw[hl.o];omega)] at hb;cases hb))
   have nX:decide ((k:Int)<(n:Int))=false:=decide_eq_false aC
   go_wp2_with fail
   go_quiet (fail)
   go_wp2_with fail
   obtain⟨wq,sV⟩:=aP (wr.drewN nq);rw[<-sV];replace hs:cM wq lo hi 2 (some ⟨g,0,none⟩) n c (bG xs):=by rw[sV];exact⟨hs.len,hs.le,hs.cap,hs.at_⟩
   replace e0:wq.cell? ⟨gb,0,none⟩=some (.int .i64 x.c):=by rw[sV];exact e0
   replace e1:wq.cell? ⟨gb,1,none⟩=some (.int .i64 x.p):=by rw[sV];exact e1
   replace zg:gb<wq.heap.size:=by rw[sV];exact zg
   have zbk:=aD (show cD w.heap.size w wq by rw[sV];exact⟨L5.o.os,L5.o.tape,L5.o.output,L5.o.size,L5.o.block⟩);have zyd:=aD (show wr.heap.size<=wq.heap.size by simp_all);clear sV;have HN:=aD (bN wq.heap.size);have Fq:=aD (zrU xs k▸hs.takeS hk);have Ri:=aD (zxe xs k▸hs.dropI hk);have zx8:=aD zg;obtain⟨fH,fV,dM,jJ⟩:=HI.o;have HH:=aD fH;have nE:=zsj.o;have zch:=aD (zwJ e0 e1);have k1:(k:Int)<=(n:Int):=aC;have k2:(n:Int)<=(c:Int):=aC;have k3:(k:Int)<=(c:Int):=aC;clear fH hs h
   go_region_held3 (λW=>W.cell? ⟨gb,0,none⟩=some (.int .i64 x.c)/\W.cell? ⟨gb,1,none⟩=some (.int .i64 x.p)/\cD wq.heap.size wq W)
    ((refine zsQ zft zft zch.o.1 zch.o.2 ?_;(repeat' (first|with_reducible assumption|with_reducible exact zf6 zff|with_reducible exact fN _ _|with_reducible apply eD|with_reducible apply zfm));done))
    (first
     |(refine zga _ rfl (.tmp 22) (.tmp 25) 57 rfl wq.heap.size 100 i0 (.agg #[.int .i64 0,.int .i64 0]) 2 16 Ll HH.o fV dM jJ rfl aH _ 0 0 [] rfl (Oy ?c1 ?c2) (some ⟨g,0,none⟩) k c _ _ (bG (xs.take k)) rfl (Fq.o.below ?c3) (Zv _) ?c5 ?c6 ?c7 ?_;(case c1=>first|omega|(simp;done)|(simp;omega));(case c2=>((try with_reducible apply Kg);(first|with_reducible assumption|(with_reducible refine lV _ _ ?_;simp)|(with_reducible refine dD ?_ _;first|with_reducible assumption|(with_reducible refine lV _ _ ?_;simp))|(with_reducible refine dD ?_ _;with_reducible refine dD ?_ _;first|with_reducible assumption|(with_reducible refine lV _ _ ?_;simp))|(with_reducible refine dD ?_ _;with_reducible refine dD ?_ _;with_reducible refine dD ?_ _;first|with_reducible assumption|(with_reducible refine lV _ _ ?_;simp)))));(case c3=>(repeat' (first|with_reducible assumption|with_reducible exact zf6 zff|with_reducible exact fN _ _|with_reducible apply eD|with_reducible apply zfm)));(case c5=>unfold maxLen;omega);(case c6=>omega);(case c7=>first|omega|(simp;done)|(simp;omega));intro g1 zkh w9 sG rT B1;rw[rH];simp only[rH,zgp] at sG;have Ca:=aD sG;have qP:=aD rT;have BW:cD wq.heap.size wq w9:=cD.trans tJ B1;have z9:=BW.size;clear sG rT B1)
     |(refine zto _ rfl (.tmp 26) (.tmp 28) 57 rfl wq.heap.size 100 i0 (.agg #[.int .i64 0,.int .i64 0]) 2 16 Ll HH.o fV dM jJ rfl aH (.slice (some ⟨g1,0,none⟩) k zkh) k (bG (xs.take k)) rfl ?c1 aQ ⟨_,0,none⟩ 1 1 [.int .i64 x.c,.int .i64 x.p] rfl rfl (Fc (cs:=#[.int .i64 x.c,.int .i64 x.p]) (t:=100) (fr:=(0,0)) ?c2) (by simp[zvw]) ?c5 ?c6 ?c7 ?_;(case c1=>first|exact Ca.o|exact Br Ca.o (λb hb=>rS _ _ b hb));(case c2=>first|exact gU _ _|exact(qP.o.block _ zgS zol).trans (by((try with_reducible apply Kg);(first|with_reducible assumption|(with_reducible refine lV _ _ ?_;simp)|(with_reducible refine dD ?_ _;first|with_reducible assumption|(with_reducible refine lV _ _ ?_;simp))|(with_reducible refine dD ?_ _;with_reducible refine dD ?_ _;first|with_reducible assumption|(with_reducible refine lV _ _ ?_;simp))|(with_reducible refine dD ?_ _;with_reducible refine dD ?_ _;with_reducible refine dD ?_ _;first|with_reducible assumption|(with_reducible refine lV _ _ ?_;simp))))));(case c5=>unfold maxLen;omega);(case c6=>omega);(case c7=>first|omega|(simp;done)|(simp;omega));intro g2 zkw wE zac zjo B2;have zbm:=aD zac;have Tm:cD wq.heap.size wq wE:=cD.trans (by first|exact BW|exact eD BW _) B2;have zG3:=Tm.size;clear zac zjo B2)
     |(refine zga _ rfl (.tmp 29) (.tmp 32) 57 rfl wq.heap.size 100 i0 (.agg #[.int .i64 0,.int .i64 0]) 2 16 Ll HH.o fV dM jJ rfl aH g2 (k+1) zkw (bG (xs.take k)++[.int .i64 x.c,.int .i64 x.p]) rfl zbm.o (if c=k then some ⟨g,0,none⟩ else some ⟨g,k*2,none⟩) (n-k) (c-k) _ _ (bG (xs.drop k)) rfl (Ri.o.below Tm) (Zv _) ?c5 ?c6 ?c7 ?_;(case c5=>unfold maxLen;omega);(case c6=>omega);(case c7=>first|omega|(simp;done)|(simp;omega));intro g3 zhQ wI zaD zib B3;have Xb:=aD zaD;have Z4:cD wq.heap.size wq wI:=Tm.trans B3;have zAr:=Z4.size;clear zaD zib B3))
   all_goals go_wp2_with fail
   all_goals go_ret
   all_goals
    have zhe:=zbk.o.size;have eQ:(sE xs x).length=k+1+(n-k):=by
     rw[HQ.o,jP,sU,yH,xY,hl.o];omega
    refine⟨_,rfl,g3,zhQ,?_,?_,zbk.o.trans (Z4.mono zhe)⟩
    .rw[eQ];rfl
    .obtain⟨h1,h2⟩:=Xb.o
     have e:=eQ;have e2:bG (sE xs x)=bG (xs.take k)++[.int .i64 x.c,.int .i64 x.p]++bG (xs.drop k):=by rw[HQ.o,zrr];simp[bG,bF.cells]
     rw[e,e2];exact⟨h1,h2.imp id λ⟨b,cap,cur,e1,e2,e3⟩=>⟨b,cap,cur,e1,aC,e3⟩⟩
theorem zhz (l:List α)(i:Nat)(f g:α->α):(l.modify i f).modify i g=l.modify i (λx=>g (f x)):=by
 apply zpr;intro j;rw[I9,I9,I9];by_cases e:i=j
 .simp[e,Function.comp_def]
 .simp[e]
variable {v:fO}{r:bY}
theorem dR.setR {j:Nat}(f:bO->bO)(h:dR w lo v r)(hd:r.recs[i]? =some d)(hj:j<7)(hs:∀k,k<7->k≠j->(f d).cells[k]? =d.cells[k]?)(hv:(f d).cells[j]? =some u):
 dR (w.setCell ⟨v.gR,i*7+j,none⟩ u) lo v {r with recs:=r.recs.modify i f}/\oL v w (w.setCell ⟨v.gR,i*7+j,none⟩ u):=by
 obtain⟨h1,hg⟩:=h.rc.stored (i*7+j) u;rw[zxG hd hj hs hv] at h1;have a:=h.ap;refine⟨⟨?_,h.wt.kept hg (.inr Gy),h.bk.kept hg (.inr Gy),h.lg.kept hg (.inr Gy),a⟩,⟨hg.os,hg.tape,hg.output,hg.size,λb hb h1 _=>hg.block b hb (λe=>h1 (by injection e))⟩⟩;simp only[fO.sR,Np];exact h1
theorem dR.recAt (h:dR w lo v r)(hd:r.recs[i]? =some d):
 w.cell? ⟨v.gR,i*7,none⟩=some (.int .i64 d.c)/\w.cell? ⟨v.gR,i*7+1,none⟩=some (.int .i64 d.l)/\w.cell? ⟨v.gR,i*7+2,none⟩=some (.int .i64 d.o)/\w.cell? ⟨v.gR,i*7+3,none⟩=some (.int .i64 d.f)/\w.cell? ⟨v.gR,i*7+4,none⟩=some (.int .i64 d.h)/\w.cell? ⟨v.gR,i*7+5,none⟩=some (.int .i64 d.t)/\w.cell? ⟨v.gR,i*7+6,none⟩=some (.string d.e):=by
 have hi:=(lR.1 hd).1;have g:∀j,j<7->w.cell? ⟨v.gR,i*7+j,none⟩=d.cells[j]? :=λj hj=>by
  rw[h.rc.cellAt (i*7+j) aC];have:=Ns bO.cells (s:=7) (λ_=>rfl) r.recs i j hj;unfold recs;rw[this,hd];rfl
 exact⟨g 0 aH,g 1 aH,g 2 aH,g 3 aH,g 4 aH,g 5 aH,g 6 aH⟩
variable {b:Nat}{w':aE}
def oL.blk {o:pX}(h:oL v w w')(hb:w.heap[b]? =some o)(h1:b≠v.gR)(h2:b≠v.gB):w'.heap[b]? =some o:=(h.block b (iB hb) h1 h2).trans hb
theorem Ua (h:rs[i]? =some d):B7 rs i=d.c:=by unfold B7;rw[h]
theorem Cn {E:Nat}{base n g c:Nat}(h:w.ownsRow base E s (.slice (some ⟨g,0,none⟩) n c) n xs)(hb:w'.heap[g]? =w.heap[g]?):w'.ownsRow base E s (.slice (some ⟨g,0,none⟩) n c) n xs:=by
 obtain⟨hl,h|⟨b,cap,cur,e,h1,hg,h2⟩⟩:=h
 .cases h.1
 .injection e with e
  injection e with e;injection e with e;subst e;exact⟨hl,.inr ⟨g,cap,cur,by simp_all,h1,hb.trans hg,h2⟩⟩
def zgP {base base':Nat}{e:aM}{size:Nat}{v:aF}(h:w.ownsRow base e size v n xs)(hb:base'<=base):w.ownsRow base' e size v n xs:=
 ⟨h.1,h.2.imp id λ⟨g,cap,cur,h1,h2,h3⟩=>⟨g,cap,cur,h1,eM hb h2,h3⟩⟩
theorem zH9 (v:fO)(r:bY)(i g cp:Nat)(e:ByteArray):(fP v r).setIfInBounds 5 (.slice (some ⟨g,0,none⟩) (dE r.wait (B7 r.recs i)).length cp)=fP {v with gW:=g,cW:=cp} (lF r i e):=by
 have h:(lF r i e).recs.length=r.recs.length:=Np _ _ _;simp only[fP,fO.sR,h];rfl
def gP (w:aE)(b:Nat)(a0 a1 a2 a3 a4 a5 a6 a7:aF):World:=(((((((w.setCell ⟨b,0,none⟩ a0).setCell ⟨b,1,none⟩ a1).setCell ⟨b,2,none⟩ a2).setCell ⟨b,3,none⟩ a3).setCell ⟨b,4,none⟩ a4).setCell ⟨b,5,none⟩ a5).setCell ⟨b,6,none⟩ a6).setCell ⟨b,7,none⟩ a7
variable {a1 a2 a0 a3 a4 a5 a6 a7:aF}{T:aM}
theorem zdk {z0 z1 z2 z3 z4 z5 z6 z7:aF}(h:w.heap[b]? =some (.cells #[z0,z1,z2,z3,z4,z5,z6,z7] T)):(gP w b a0 a1 a2 a3 a4 a5 a6 a7).heap[b]? =some (.cells #[a0,a1,a2,a3,a4,a5,a6,a7] T):=by
 unfold gP;rw[n8 (n8 (n8 (n8 (n8 (n8 (n8 (n8 h a0) a1) a2) a3) a4) a5) a6) a7];simp only[List.setIfInBounds_toArray,List.set_cons_zero,List.set_cons_succ]
theorem G3 {x:Nat}(h:x≠b):(gP w b a0 a1 a2 a3 a4 a5 a6 a7).heap[x]? =w.heap[x]? :=by
 unfold gP;rw[dN _ _ _ x h,dN _ _ _ x h,dN _ _ _ x h,dN _ _ _ x h,dN _ _ _ x h,dN _ _ _ x h,dN _ _ _ x h,dN _ _ _ x h]
theorem zka (w:aE)(b:Nat)(a0 a1 a2 a3 a4 a5 a6 a7:aF):(gP w b a0 a1 a2 a3 a4 a5 a6 a7).heap.size=w.heap.size:=by
 unfold gP;simp only[wL]
def zhv (w:aE)(b:Nat)(a0 a1 a2 a3 a4 a5 a6 a7:aF):Chg b (b+1) w (gP w b a0 a1 a2 a3 a4 a5 a6 a7):=
 ((((((((Chg.refl b (b+1) w).setCell (p:=⟨b,0,none⟩) (bN _) (yE _) a0).setCell (p:=⟨b,1,none⟩) (bN _) (yE _) a1).setCell (p:=⟨b,2,none⟩) (bN _) (yE _) a2).setCell (p:=⟨b,3,none⟩) (bN _) (yE _) a3).setCell (p:=⟨b,4,none⟩) (bN _) (yE _) a4).setCell (p:=⟨b,5,none⟩) (bN _) (yE _) a5).setCell (p:=⟨b,6,none⟩) (bN _) (yE _) a6).setCell (p:=⟨b,7,none⟩) (bN _) (yE _) a7
def dR.set8 (h:dR w lo v r)(hb:b≠v.gR/\b≠v.gW/\b≠v.gB/\b≠v.gL):dR (gP w b a0 a1 a2 a3 a4 a5 a6 a7) lo v r:=
 ⟨Cn h.rc (G3 (Ne.symm hb.1)),Cn h.wt (G3 (Ne.symm hb.2.1)),Cn h.bk (G3 (Ne.symm hb.2.2.1)),Cn h.lg (G3 (Ne.symm hb.2.2.2)),h.ap⟩
def oL.set8 {w0:aE}(h:oL v w0 w)(hb:w0.heap.size<=b):oL v w0 (gP w b a0 a1 a2 a3 a4 a5 a6 a7):=
 have c:=zhv w b a0 a1 a2 a3 a4 a5 a6 a7
 ⟨c.os.trans h.os,c.tape.trans h.tape,c.output.trans h.output,eM h.size c.size,λx hx h1 h2=>(G3 aC).trans (h.block x hx h1 h2)⟩
abbrev kI:Obj:=.cells #[.int .i64 0,.int .i64 0,.int .i64 0,.int .i64 0,.slice none 0 0,.slice none 0 0,.slice none 0 0,.slice none 0 0] 59
theorem zly (lo i:Nat)(v:fO)(r:bY)(d:bO)(e:ByteArray)(w:aE)(h:dR w lo v r)(hd:r.recs[i]? =some d)(hn:r.recs.length<=100000)(Ly:r.wait.length<=100000)(eB:lo<=w.heap.size):
 iR aK 96 #[.agg (fP v r),.int .i64 (i:Int),.string e] w λx w'=>∃g c,x=.returned (.agg (fP {v with gW:=g,cW:=c} (lF r i e)))/\dR w' lo {v with gW:=g,cW:=c} (lF r i e)/\oL v w w'/\w.heap.size<=g:=by
 obtain⟨gb,eR⟩:=aP w.heap.size;have hl:=h.lts;have hi:=(lR.1 hd).1;obtain⟨O,hO⟩:=aP (.cells (fP v r) 59:pX);obtain⟨Z,hZ⟩:=aP (kI:pX);have lP:((w.alloc O).alloc Z).heap[gb]? =some (.cells (fP v r) 59):=by rw[hO,eR];exact dD (gU _ _) _
 have pK:((w.alloc O).alloc Z).heap[gb+1]? =some kI:=by rw[<-hZ];exact lV _ _ Zj
 have jX:=(h.alloc O).alloc Z;have T1:oL v w ((w.alloc O).alloc Z):=oL.of_below v (eD (eD (fN _ _) _) _);have zP:=aD lP;have zaV:=aD pK;have jC:=aD jX;have Fq:=aD T1;have HO:=aD hO;have HZ:=aD (show Z=.cells #[.int .i64 0,.int .i64 0,.int .i64 0,.int .i64 0,.slice none 0 0,.slice none 0 0,.slice none 0 0,.slice none 0 0] 59 from hZ);have fR:=aD eR;have HD:=aD hd;clear hO hZ eR lP pK jX T1 hd h;have i0:(0:Int)<=(i:Int):=aC;have i1:(i:Int)<(r.recs.length:Int):=aC
 go_enter Tryz.func96,Tryz.ntmps96
 go_upto_region 1 with fail
 rw[<-HO.o,<-HZ.o,<-fR.o];obtain⟨W1,cO⟩:=aP ((w.alloc O).alloc Z);have dM:W1.heap.size=gb+2:=by rw[cO,fR.o];simp
 rw[<-cO] at zP zaV jC Fq⊢;have pF:=aD dM;have Kh:gb≠v.gR:=by have:=fR.o;omega
 have Aq:gb≠v.gB:=by have:=fR.o;omega
 have Oq:gb+1≠v.gR:=by have:=fR.o;omega
 have zcY:gb+1≠v.gB:=by have:=fR.o;omega
 clear cO dM;have k:=aI zP.o;obtain⟨c0,c1,c2,c3,c4,c5,c6⟩:=jC.o.recAt HD.o;have fz:=λj=>jC.o.rc.frozenAt j;have k3:=k 3;have k4:=k 4;have S1:=jC.o.setR (λd=>{d with t:=r.clk}) HD.o (j:=5) aH zqy rfl;have mL:=aD S1;clear S1 k
 go_upto_region 2 with fail
 obtain⟨W2,nZ⟩:=aP (W1.setCell ⟨v.gR,i*7+5,none⟩ (.int .i64 r.clk));rw[<-nZ] at mL⊢;have Bv:(r.recs.modify i λd=>{d with t:=r.clk})[i]? =some {d with t:=r.clk}:=by rw[I9];simp[HD.o]
 have Y9:=aD Bv;have zok:=aD (mL.o.2.blk zP.o Kh Aq);have zER:=aD (mL.o.2.blk zaV.o Oq zcY);clear nZ c0 c1 c2 c3 c4 c5 c6 fz k3 k4 Bv;have k4:=aI zok.o 4;obtain⟨c0,c1,c2,c3,c4,c5,c6⟩:=mL.o.1.recAt Y9.o;have fz:=λj=>mL.o.1.rc.frozenAt j;have S2:=mL.o.1.setR (λd=>{d with e:=e}) Y9.o (j:=6) aH zoM rfl;rw[zhz] at S2;have tH:=aD S2;clear S2
 go_upto_region 3 with fail
 obtain⟨W3,sC⟩:=aP (W2.setCell ⟨v.gR,i*7+6,none⟩ (.string e));rw[<-sC] at tH⊢;have zwM:(r.recs.modify i λd=>{d with t:=r.clk,e:=e})[i]? =some {d with t:=r.clk,e:=e}:=by rw[I9];simp[HD.o]
 have V7:=aD zwM;have V5:=aD (Fq.o.same (mL.o.2.same tH.o.2));have zbR:=tH.o.2.blk zok.o Kh Aq;have zp7:=aD (tH.o.2.blk zER.o Oq zcY);have Lu:=aD (show dR W3 lo v {r with recs:=vD r i e} from tH.o.1);have zg2:gb+2<=W3.heap.size:=by have:=V5.o.size;have:=pF.o;have:=mL.o.2.size;have:=tH.o.2.size;omega
 clear sC c0 c1 c2 c3 c4 c5 c6 fz k4 zwM;have k4:=aI zbR 4;have k5:=aI zbR 5;have fz:=eO zbR;obtain⟨c0,-,-,-,-,-,-⟩:=tH.o.1.recAt V7.o;have zCP:=aD zbR;have Lr:=Lu.o.slcW;have Qp:=aD Lr;clear zbR Lr
 go_cut [] from 20 to 29 (λwx=>∃g c,wx.heap[gb]? =some (H6 {v with gW:=g,cW:=c} (lF r i e))/\wx.heap[gb+1]? =some kI/\dR wx lo {v with gW:=g,cW:=c} (lF r i e)/\oL v w wx/\w.heap.size<=g/\gb+1<g)
 case first=>
  go_region_with (go_at_call 95;refine(zd8 lo W3.heap.size r.wait.length v.cW (some ⟨v.gW,0,none⟩) r.wait d.c W3.drew (Qp.o.keep (bN _) (λ_ _ _ _=>rfl)) Ly).mono ?_;rintro x w4 ⟨_,rfl,g,cp,rfl,cZ,b4⟩;have k0:=(mH b4 (Kg zCP.o)).1;have k5:=aI k0 5;have fz:=eO k0;have z4:=iB k0;have Un:=aD cZ;clear cZ)
  all_goals
   go_wp2_with fail
   go_meet
   have qH:=Ua HD.o;have Pf:=V5.o.size;have hg:W3.heap.size<=g:=(Un.o.lt g rfl).1;have zR:∀b,b<W3.heap.size->b≠gb->(w4.setCell ⟨gb,5,none⟩ (.slice (some ⟨g,0,none⟩) (dE r.wait d.c).length cp)).heap[b]? =W3.heap[b]? :=λb hb aS=>(dN w4 _ _ b aS).trans (b4.block b hb);have l3:=Lu.o.lts;have eR:=fR.o;refine⟨g,cp,?_,(zR _ (iB zp7.o) aC).trans zp7.o,?_,⟨b4.os.trans V5.o.os,b4.tape.trans V5.o.tape,b4.output.trans V5.o.output,?_,λb hb h1 h2=>(zR b aC aC).trans (V5.o.block b hb h1 h2)⟩,aC,aC⟩
   .rw[n8 k0,<-qH]
    rw[zH9 v r i g cp e]
   .have a:=Lu.o.ap
    have hk:∀b,b<w.heap.size->W3.heap.size<=W3.heap.size:=λ_ _=>bN _;have row:(w4.setCell ⟨gb,5,none⟩ (.slice (some ⟨g,0,none⟩) (dE r.wait d.c).length cp)).ownsRow W3.heap.size 100 2 (.slice (some ⟨g,0,none⟩) (dE r.wait d.c).length cp) (dE r.wait d.c).length (bG (dE r.wait d.c)):=Cn Un.o (dN w4 _ _ g s9);have zjy:∀{E s n:Nat} {A:Nat} {c:Nat} {xs:List aF},A<gb->W3.ownsRow lo E s (.slice (some ⟨A,0,none⟩) n c) n xs->(w4.setCell ⟨gb,5,none⟩ (.slice (some ⟨g,0,none⟩) (dE r.wait d.c).length cp)).ownsRow lo E s (.slice (some ⟨A,0,none⟩) n c) n xs:=λ{E s n A c xs} hA h=>Cn h (zR A (h.lt A rfl).2 aC);have l0:=hl;refine⟨zjy tJ Lu.o.rc,?_,zjy tJ Lu.o.bk,zjy tJ Lu.o.lg,by grind⟩;have:=zgP row (base':=lo) aC;rw[<-qH] at this⊢;exact this
   .grind
 case rest=>
  obtain⟨g,c,kb,kr,hR,hT,hg,zCu⟩:=hcut;have zIW:g<gb\/gb+1<g:=.inr zCu;have k:=aI kb;obtain⟨k0,k1,k2,k3,k4,k5,k6,k7⟩:=eJ k;have q:=aI kr;obtain⟨q0,q1,q2,q3,q4,q5,q6,q7⟩:=eJ q;have qf:=eO kr;have HR:=aD hR;have HT:=aD hT;have HG:=aD hg;have kC:=aD kr;clear hR hT hg kb kr k q;go_wp2;have er:=aI (zdk (a0:=.int .i64 (lF r i e).o.ln) (a1:=.int .i64 (lF r i e).o.op) (a2:=.int .i64 (lF r i e).o.pt) (a3:=.int .i64 (lF r i e).clk) (a4:=.slice (some ⟨v.gR,0,none⟩) (lF r i e).recs.length v.cR) (a5:=.slice (some ⟨g,0,none⟩) (lF r i e).wait.length c) (a6:=.slice (some ⟨v.gB,0,none⟩) (lF r i e).back.length v.cB) (a7:=.slice (some ⟨v.gL,0,none⟩) (lF r i e).log.length v.cL) kC.o);have l:=HR.o.lts;have eR:=fR.o;have zjD:=HG.o;have Gn:=hl;have a:=HR.o.ap;refine bodyPost_ret (v:=.agg (fP {v with gW:=g,cW:=c} (lF r i e))) ?_ rfl ⟨g,c,rfl,HR.o.set8 ?_,HT.o.set8 aC,zjD⟩
  .unfold gP at er
   simp[results,Tryz.results96,go_sem,er]
  .grind
structure gH (w0 w:aE)(lo gb k:Nat)(v0 v:fO)(r:bY):Prop where
 ok:dR w lo v r
 turn:oL v0 w0 w
 moved:xC gb v0 v
 base:gb=w0.heap.size
 blk:w.heap[gb]? =some (.cells (fP v r) 59)
 size:gb+k<=w.heap.size
 kpos:0<k
 aR:v.gR<gb\/gb+k<=v.gR
 aW:v.gW<gb\/gb+k<=v.gW
 aB:v.gB<gb\/gb+k<=v.gB
 aL:v.gL<gb\/gb+k<=v.gL
 lob:lo<=gb
section
variable {w0 w w':aE}{lo gb k:Nat}{v0 v:fO}{r:bY}
def gH.keep (h:gH w0 w lo gb k v0 v r)(b:cD w.heap.size w w'):gH w0 w' lo gb k v0 v r:=
 ⟨h.ok.below b,h.turn.same (oL.of_below v0 b),h.moved,h.base,(b.block _ (iB h.blk)).trans h.blk,eM h.size b.size,h.kpos,h.aR,h.aW,h.aB,h.aL,h.lob⟩
def gH.alloc (h:gH w0 w lo gb k v0 v r)(o:pX):gH w0 (w.alloc o) lo gb k v0 v r:=h.keep (eD (fN _ _) o)
def gH.drew (h:gH w0 w lo gb k v0 v r):gH w0 w.drew lo gb k v0 v r:=h.keep ⟨rfl,rfl,rfl,bN _,λ_ _=>rfl⟩
def room_R (v:fO)(r:bY)(g c:Nat)(xs:List bO):(fP v r).setIfInBounds 4 (.slice (some ⟨g,0,none⟩) xs.length c)=fP {v with gR:=g,cR:=c} {r with recs:=xs}:=rfl
def room_W (v:fO)(r:bY)(g c:Nat)(xs:List bF):(fP v r).setIfInBounds 5 (.slice (some ⟨g,0,none⟩) xs.length c)=fP {v with gW:=g,cW:=c} {r with wait:=xs}:=rfl
def room_B (v:fO)(r:bY)(g c:Nat)(xs:List bF):(fP v r).setIfInBounds 6 (.slice (some ⟨g,0,none⟩) xs.length c)=fP {v with gB:=g,cB:=c} {r with back:=xs}:=rfl
def room_L (v:fO)(r:bY)(g c:Nat)(xs:List (List UInt8)):(fP v r).setIfInBounds 7 (.slice (some ⟨g,0,none⟩) xs.length c)=fP {v with gL:=g,cL:=c} {r with log:=xs}:=rfl
def Af {N g:Nat}{o:pX}(hb:w.grownBy w' (some g))(hN:w.heap[N]? =some o)(aS:N≠g):w'.heap[N]? =some o/\N<w'.heap.size:=
 ⟨(hb.block N (iB hN) zfR).trans hN,jW (iB hN) hb.size⟩
variable {u:aF}
theorem zpn {row:Nat}{b i:Nat}(hg:w.grownBy w' (some row)){x:Nat}(hx:x<w.heap.size)(h1:x≠row)(h2:x≠b):(w'.setCell ⟨b,i,none⟩ u).heap[x]? =w.heap[x]? :=
 (dN w' _ _ x h2).trans (hg.block x hx (by simp;exact h1))
def dR.setCell {b i:Nat}(h:dR w lo v r)(hb:b≠v.gR/\b≠v.gW/\b≠v.gB/\b≠v.gL):dR (w.setCell ⟨b,i,none⟩ u) lo v r:=
 ⟨Cn h.rc (dN w _ _ _ (Ne.symm hb.1)),Cn h.wt (dN w _ _ _ (Ne.symm hb.2.1)),Cn h.bk (dN w _ _ _ (Ne.symm hb.2.2.1)),Cn h.lg (dN w _ _ _ (Ne.symm hb.2.2.2)),h.ap⟩
theorem gH.appB {m g c:Nat}{x:bF}(h:gH w0 w lo gb k v0 v r)(hg:w.grownBy w' (some v.gB))(ho:w'.ownsRow lo 100 2 (.slice (some ⟨g,0,none⟩) m c) m (bG r.back++x.cells))(hm:m=r.back.length+1)(hw:g=v.gB\/g=w.heap.size):
 gH w0 (w'.setCell ⟨gb,6,none⟩ (.slice (some ⟨g,0,none⟩) m c)) lo gb k v0 {v with gB:=g,cB:=c} {r with back:=r.back++[x]}:=by
 have hk:=h.ok.appB hg ho hm aC;have sz:=h.size;have kp:=h.kpos;have aR:=h.aR;have aW:=h.aW;have aB:=h.aB;have aL:=h.aL;have l:=h.ok.lts;have hs:=hg.size;have Of:=h.base;have kb:=(Af hg h.blk aC).1;have zaz:g≠gb:=aC;refine⟨hk.setCell s9,?_,⟨h.moved.r,h.moved.w,?_,h.moved.l⟩,h.base,?_,?_,kp,aR,aW,?_,aL,h.lob⟩
 .have t:=h.turn
  have mb:=h.moved.b;refine⟨hg.os.trans t.os,hg.tape.trans t.tape,hg.output.trans t.output,?_,λb hb h1 h2=>?_⟩
  .rw[wL];have:=t.size;omega
  .exact(zpn hg zg7 aC aC).trans (t.block b hb h1 h2)
 .have:=h.moved.b
  simp only;omega
 .rw[n8 kb]
  simp_all
 .rw[wL];omega
 .simp only;omega
theorem gH.appR {m g c:Nat}{x:bO}(h:gH w0 w lo gb k v0 v r)(hg:w.grownBy w' (some v.gR))(ho:w'.ownsRow lo 50 7 (.slice (some ⟨g,0,none⟩) m c) m (recs r.recs++x.cells))(hm:m=r.recs.length+1)(hw:g=v.gR\/g=w.heap.size):
 gH w0 (w'.setCell ⟨gb,4,none⟩ (.slice (some ⟨g,0,none⟩) m c)) lo gb k v0 {v with gR:=g,cR:=c} {r with recs:=r.recs++[x]}:=by
 have hk:=h.ok.appR hg ho hm aC;have sz:=h.size;have kp:=h.kpos;have aR:=h.aR;have aW:=h.aW;have aB:=h.aB;have aL:=h.aL;have l:=h.ok.lts;have hs:=hg.size;have Of:=h.base;have kb:=(Af hg h.blk aC).1;have zaz:g≠gb:=aC;refine⟨hk.setCell s9,?_,⟨?_,h.moved.w,h.moved.b,h.moved.l⟩,h.base,?_,?_,kp,?_,aW,aB,aL,h.lob⟩
 .have t:=h.turn
  have mb:=h.moved.r;refine⟨hg.os.trans t.os,hg.tape.trans t.tape,hg.output.trans t.output,?_,λb hb h1 h2=>?_⟩
  .rw[wL];have:=t.size;omega
  .exact(zpn hg zg7 aC aC).trans (t.block b hb h1 h2)
 .have:=h.moved.r
  simp only;omega
 .rw[n8 kb]
  simp_all
 .rw[wL];omega
 .simp only;omega
variable {xs:List bF}
theorem gH.setW {g c n:Nat}(h:gH w0 w lo gb k v0 v r)(b:cD n w w')(ho:w'.ownsRow n 100 2 (.slice (some ⟨g,0,none⟩) xs.length c) xs.length (bG xs))(hn:n=w.heap.size):
 gH w0 (w'.setCell ⟨gb,5,none⟩ (.slice (some ⟨g,0,none⟩) xs.length c)) lo gb k v0 {v with gW:=g,cW:=c} {r with wait:=xs}:=by
 subst hn;have hg:w.heap.size<=g:=(ho.lt g rfl).1;have sz:=h.size;have l:=h.ok.lts;have Of:=h.base;have lob:=h.lob;have hk:=h.ok.newW (w':=w') (λx hx=>b.block x hx) (zgP ho aC) rfl hg;have kp:=h.kpos;have aR:=h.aR;have aW:=h.aW;have aB:=h.aB;have aL:=h.aL;have hs:=b.size;have kb:=(mH b h.blk).1;refine⟨hk.setCell s9,?_,⟨h.moved.r,.inr Ki,h.moved.b,h.moved.l⟩,h.base,?_,?_,kp,aR,.inr Ki,aB,aL,h.lob⟩
 .have t:=h.turn
  refine⟨b.os.trans t.os,b.tape.trans t.tape,b.output.trans t.output,?_,λy hy h1 h2=>?_⟩
  .rw[wL];have:=t.size;omega
  .exact((dN w' _ _ y (by show y≠gb;omega)).trans (b.block y zg7)).trans (t.block y hy h1 h2)
 .rw[n8 kb]
  rw[room_W v r g c xs]
 .rw[wL];omega
theorem gH.setB {g c n:Nat}(h:gH w0 w lo gb k v0 v r)(b:cD n w w')(ho:w'.ownsRow n 100 2 (.slice (some ⟨g,0,none⟩) xs.length c) xs.length (bG xs))(hn:n=w.heap.size):
 gH w0 (w'.setCell ⟨gb,6,none⟩ (.slice (some ⟨g,0,none⟩) xs.length c)) lo gb k v0 {v with gB:=g,cB:=c} {r with back:=xs}:=by
 subst hn;have hg:w.heap.size<=g:=(ho.lt g rfl).1;have sz:=h.size;have l:=h.ok.lts;have Of:=h.base;have lob:=h.lob;have hk:=h.ok.newB (w':=w') (λx hx=>b.block x hx) (zgP ho aC) rfl hg;have kp:=h.kpos;have aR:=h.aR;have aW:=h.aW;have aB:=h.aB;have aL:=h.aL;have hs:=b.size;have kb:=(mH b h.blk).1;refine⟨hk.setCell s9,?_,⟨h.moved.r,h.moved.w,.inr Ki,h.moved.l⟩,h.base,?_,?_,kp,aR,aW,.inr Ki,aL,h.lob⟩
 .have t:=h.turn
  refine⟨b.os.trans t.os,b.tape.trans t.tape,b.output.trans t.output,?_,λy hy h1 h2=>?_⟩
  .rw[wL];have:=t.size;omega
  .exact((dN w' _ _ y (by show y≠gb;omega)).trans (b.block y zg7)).trans (t.block y hy h1 h2)
 .rw[n8 kb]
  rw[room_B v r g c xs]
 .rw[wL];omega
theorem gH.setR {i j:Nat}{d:bO}(f:bO->bO)(h:gH w0 w lo gb k v0 v r)(hd:r.recs[i]? =some d)(hj:j<7)(hs:∀k,k<7->k≠j->(f d).cells[k]? =d.cells[k]?)(hv:(f d).cells[j]? =some u):
 gH w0 (w.setCell ⟨v.gR,i*7+j,none⟩ u) lo gb k v0 v {r with recs:=r.recs.modify i f}:=by
 obtain⟨h1,h2⟩:=h.ok.setR f hd hj hs hv;have l:=h.ok.lts;have Of:=h.base;have mr:=h.moved.r;have kp:=h.kpos;have aR:=h.aR;have sz:=h.size;refine⟨h1,?_,h.moved,h.base,?_,by simp_all,h.kpos,h.aR,h.aW,h.aB,h.aL,h.lob⟩
 .have t:=h.turn
  refine⟨t.os,t.tape,t.output,by rw[wL];exact t.size,λy hy e1 e2=>?_⟩;exact(dN w _ _ y (by show y≠v.gR;omega)).trans (t.block y hy e1 e2)
 .have e:(w.setCell ⟨v.gR,i*7+j,none⟩ u).heap[gb]? =w.heap[gb]? :=dN w _ _ gb (by show gb≠v.gR;omega)
  rw[e,h.blk];simp_all
theorem gH.turned {n:Nat}{v':fO}{r':bY}(h:gH w0 w lo gb k v0 v r)(ho:dR w' lo v' r')(t:oL v w w')(m:xC n v v')(hn:n=w.heap.size):
 dR w' lo v' r'/\oL v0 w0 w'/\xC gb v0 v'/\w'.heap[gb]? =some (.cells (fP v r) 59):=by
 have Of:=h.base;have sz:=h.size;have kp:=h.kpos;have aR:=h.aR;have aB:=h.aB;exact⟨ho,h.turn.trans t h.moved aC,h.moved.trans m aC,t.blk h.blk aC aC⟩
theorem gH.done {b:Nat}{a0 a1 a2 a3 a4 a5 a6 a7:aF}(h:gH w0 w lo gb k v0 v r)(hb:gb<=b/\b<gb+k):dR (gP w b a0 a1 a2 a3 a4 a5 a6 a7) lo v r/\oL v0 w0 (gP w b a0 a1 a2 a3 a4 a5 a6 a7)/\xC w0.heap.size v0 v:=by
 have aR:=h.aR;have aW:=h.aW;have aB:=h.aB;have aL:=h.aL;have Of:=h.base;exact⟨h.ok.set8 aC,h.turn.set8 aC,Of▸h.moved⟩
theorem Aw {a:bD}{v:aF}(h:w.cell? a=some v)(o:pX):(w.alloc o).cell? a=some v:=(aE.cell?_alloc_some w a o (by rw[h];rfl)).trans h
end
def sJ {z0 z1 z2 z3 z4 z5 z6 z7:aF}(v:fO)(r:bY)(h:w.heap[b]? =some (.cells #[z0,z1,z2,z3,z4,z5,z6,z7] T)):
 (gP w b (.int .i64 r.o.ln) (.int .i64 r.o.op) (.int .i64 r.o.pt) (.int .i64 r.clk) (v.sR r) (v.sW r) (v.sB r) (v.sL r)).heap[b]? =some (.cells #[.int .i64 r.o.ln,.int .i64 r.o.op,.int .i64 r.o.pt,.int .i64 r.clk,v.sR r,v.sW r,v.sB r,v.sL r] T):=zdk h
theorem zgf (h:dR w lo v r)(eB:lo<=w.heap.size):∃(gb:Nat) (O Z:pX),qE (gb=w.heap.size)/\qE (O=.cells (fP v r) 59)/\qE (Z=.cells #[.int .i64 0,.int .i64 0,.int .i64 0,.int .i64 0,.slice none 0 0,.slice none 0 0,.slice none 0 0,.slice none 0 0] 59)/\
 qE (gH w ((w.alloc O).alloc Z) lo gb 2 v v r)/\qE (((w.alloc O).alloc Z).heap[gb+1]? =some kI)/\qE (((w.alloc O).alloc Z).heap.size=gb+2)/\qE (v.gR<gb/\v.gW<gb/\v.gB<gb/\v.gL<gb):=by
 obtain⟨gb,eR⟩:=aP w.heap.size;have hl:=h.lts;obtain⟨O,hO⟩:=aP (.cells (fP v r) 59:pX);obtain⟨Z,hZ⟩:=aP (kI:pX);have lP:((w.alloc O).alloc Z).heap[gb]? =some (H6 v r):=by rw[hO,eR];exact dD (gU _ _) _
 have pK:((w.alloc O).alloc Z).heap[gb+1]? =some kI:=by rw[<-hZ];exact lV _ _ Zj
 have dM:((w.alloc O).alloc Z).heap.size=gb+2:=by rw[eR];simp
 have eW:=aD (show gH w ((w.alloc O).alloc Z) lo gb 2 v v r from⟨(h.alloc O).alloc Z,oL.of_below v (eD (eD (fN _ _) _) _),xC.refl _ _,eR,lP,aC,aC,.inl aC,.inl aC,.inl aC,.inl aC,aC⟩);have pF:=aD dM
 grind
theorem dec_big {u:Nat}(h:9<u):Ys u=Ys (u/10)++[zbz (48+u%10)]:=by
 rw[Ys,dif_neg aC]
theorem zaZ (k:Nat)(hk:k<=100000000)(w:aE):
 iR aK 94 #[.int .i64 k] w λe w'=>e=.returned (.string ⟨(Mc k).toArray⟩)/\cD w.heap.size w w':=by
 have hI:=aD (Lib.itoa_nonneg k)
 go_enter Tryz.func94,Tryz.ntmps94
 go_wp2
 go_loopw [0,3] (λa s wr=>∃(u:Nat) (l:List UInt8),a=.int .i64 u/\s=.string ⟨l.toArray⟩/\u<=100000000/\Ys u++l=Ys k/\cD w.heap.size w wr) (λa _ _=>(intOf a).toNat)
 case atStart=>exact⟨k,[],rfl,rfl,hk,List.append_nil _,fN _ _⟩
 case round=>
  obtain⟨u,l,rfl,rfl,hu,hl,B⟩:=hrel;have HL:=aD hl;have Jy:l.length<=20:=by have:=congrArg List.length HL.o;rw[jP] at this;have:=Ss (k:=k) aC;omega
  by_cases aU:9<u
  .have zl8:=cv1 wr (48+u%10) aC
   rw[show((48+u%10:Nat):Int)=48+(u:Int)%10 by omega] at zl8;have HD:=aD (dec_big aU);go_wp2;go_roundw
   case rel=>exact⟨u/10,zbz (48+u%10)::l,by first|rfl|(congr 1;omega),by rw[N0];simp,aC,by rw[<-HL.o,HD.o];simp,eD B _⟩
   case measure=>simp[intOf];omega
  .have zl8:=cv1 wr (48+u) aC
   rw[show((48+u:Nat):Int)=48+(u:Int) by omega] at zl8;have HT:=aD (show(⟨[zbz (48+u)].toArray⟩:ByteArray)++⟨l.toArray⟩=⟨(Mc k).toArray⟩ by rw[N0,hI.o,<-HL.o,Lib.decDigits_one aC];simp);go_wp2;go_ret;exact⟨congrArg (λx=>zmu (aF.string x)) (by rw[<-HT.o];simp),eD B _⟩
end Go.Proofs.YtfcjiloojkjaeaaGreatDoor
namespace Go.Tt
abbrev Pr:=Nat->Nat->Prop
def Pr.le (R R':Pr):Prop:=∀a b,R a b->R' a b
def Pr.le.refl (R:Pr):R.le R:=λ_ _ h=>h
variable {R R':Pr}
def Pr.le.trans {Qm:Pr}(h:R.le R')(h':R'.le Qm):R.le Qm:=λa b x=>h' a b (h a b x)
def Pr.add (R:Pr)(n n':Nat):Pr:=λa b=>R a b\/(a=n/\b=n')
def Pr.le_add (R:Pr)(n n':Nat):R.le (R.add n n'):=λ_ _ h=>.inl h
inductive fL (R:Pr):bD->bD->Prop
 |mk {b b' o:Nat} {s:Option Nat}:R b b'->fL R ⟨b,o,s⟩ ⟨b',o,s⟩
inductive xP (R:Pr):Option bD->Option bD->Prop
 |none:xP R none none
 |some {a a':bD}:fL R a a'->xP R (some a) (some a')
inductive Fy (R:Pr):Option Nat->Option Nat->Prop
 |none:Fy R none none
 |some {a a':Nat}:R a a'->Fy R (some a) (some a')
def Pr.or (R K:Pr):Pr:=λa b=>R a b\/K a b
variable {K:Pr}
def Pr.or_mono (h:R.le R'):(R.or K).le (R'.or K):=λa b x=>x.imp (h a b) id
def HidV:aF->Prop
 | .agg _| .tuple _| .bool _| .nilIface=>False
 |_=>True
inductive VR (S:aN->Prop)(K R:Pr):aF->aF->Prop
 |bool (b:Bool):VR S K R (.bool b) (.bool b)
 |int (k:Cm) (n:Int):VR S K R (.int k n) (.int k n)
 |string (s:ByteArray):VR S K R (.string s) (.string s)
 |nilFunc:VR S K R .nilFunc .nilFunc
 |nilIface:VR S K R .nilIface .nilIface
 |pointer {a a':Option bD}:xP R a a'->VR S K R (.pointer a) (.pointer a')
 |slice {a a':Option bD} {n c:Nat}:xP R a a'->VR S K R (.slice a n c) (.slice a' n c)
 |map {a a':Option Nat}:Fy R a a'->VR S K R (.map a) (.map a')
 |chan {a a':Option Nat}:Fy (R.or K) a a'->VR S K R (.chan a) (.chan a')
 |func {f:aN} {xs bV ys Ob:Array aF}:S f->xs.size=bV.size->(∀(i:Nat) (v v':aF),xs[i]? =some v->bV[i]? =some v'->VR S K R v v')->
  ys.size=Ob.size->(∀(i:Nat) (v v':aF),ys[i]? =some v->Ob[i]? =some v'->VR S K R v v')->VR S K R (.func (.func f) xs ys) (.func (.func f) bV Ob)
 |iface {t:aM} {v v':aF}:VR S K R v v'->VR S K R (.iface t v) (.iface t v')
 |agg {xs bV:Array aF}:xs.size=bV.size->(∀(i:Nat) (v v':aF),xs[i]? =some v->bV[i]? =some v'->VR S K R v v')->VR S K R (.agg xs) (.agg bV)
 |tuple {xs bV:Array aF}:xs.size=bV.size->(∀(i:Nat) (v v':aF),xs[i]? =some v->bV[i]? =some v'->VR S K R v v')->VR S K R (.tuple xs) (.tuple bV)
 |junk {v':aF}:HidV v'->VR S K R .nilFunc v'
def bL (S:aN->Prop)(K R:Pr)(xs bV:Array aF):Prop:=xs.size=bV.size/\∀(i:Nat) (v v':aF),xs[i]? =some v->bV[i]? =some v'->VR S K R v v'
section
variable {S:aN->Prop}{K R R':Pr}
theorem fL.mono (h:R.le R'){a a':bD}(x:fL R a a'):fL R' a a':=by cases x with|mk x=>exact .mk (h _ _ x)
theorem xP.mono (h:R.le R'){a a':Option bD}(x:xP R a a'):xP R' a a':=by cases x with|none=>exact .none|some x=>exact .some (x.mono h)
theorem Fy.mono (h:R.le R'){a a':Option Nat}(x:Fy R a a'):Fy R' a a':=by cases x with|none=>exact .none|some x=>exact .some (h _ _ x)
variable {v v':aF}
theorem VR.mono (h:R.le R')(x:VR S K R v v'):VR S K R' v v':=by
 induction x with
 |bool b=>exact .bool b
 |int k n=>exact .int k n
 |string s=>exact .string s
 |nilFunc=>exact .nilFunc
 |nilIface=>exact .nilIface
 |pointer x=>exact .pointer (x.mono h)
 |slice x=>exact .slice (x.mono h)
 |map x=>exact .map (x.mono h)
 |chan x=>exact .chan (x.mono (Pr.or_mono h))
 |func s e1 _ e2 _ i1 i2=>exact .func s e1 i1 e2 i2
 |iface _ ih=>exact .iface ih
 |agg e _ ih=>exact .agg e ih
 |tuple e _ ih=>exact .tuple e ih
 |junk h=>exact .junk h
variable {xs bV:Array aF}
def bL.mono (h:R.le R')(x:bL S K R xs bV):bL S K R' xs bV:=⟨x.1,λi v v' h1 h2=>(x.2 i v v' h1 h2).mono h⟩
variable {i:Nat}
theorem bL.get (x:bL S K R xs bV)(h:xs[i]? =some v):∃v',bV[i]? =some v'/\VR S K R v v':=by
 have hi:i<bV.size:=by rw[<-x.1];exact(eE.1 h).1
 exact⟨bV[i],qA hi,x.2 i _ _ h (qA hi)⟩
theorem bL.none (x:bL S K R xs bV)(h:xs[i]? =none):bV[i]? =none:=by
 rw[zxI] at h⊢;rw[<-x.1];exact h
theorem bL.getD (x:bL S K R xs bV)(i:Nat){d d':aF}(hd:VR S K R d d'):VR S K R (xs.getD i d) (bV.getD i d'):=by
 rw[xE,xE]
 cases h:xs[i]? with
 |none=>rw[x.none h];exact hd
 |some v=>obtain⟨v',h',hv⟩:=x.get h;rw[h'];exact hv
theorem bL.set (x:bL S K R xs bV)(i:Nat)(hv:VR S K R v v'):bL S K R (xs.setIfInBounds i v) (bV.setIfInBounds i v'):=by
 refine⟨by simp[x.1],λj u u' h h'=>?_⟩;by_cases e:i=j
 .grind
 .rw[rN e] at h h'
  exact x.2 j u u' h h'
theorem bL.push (x:bL S K R xs bV)(hv:VR S K R v v'):bL S K R (xs.push v) (bV.push v'):=by
 refine⟨by simp[x.1],λj u u' h h'=>?_⟩;rw[zlv] at h h';rw[<-x.1] at h';split at h
 .simp_all
 .rename_i e;rw[if_neg e] at h';exact x.2 j u u' h h'
theorem bL.append {ys Ob:Array aF}(x:bL S K R xs bV)(y:bL S K R ys Ob):bL S K R (xs++ys) (bV++Ob):=by
 refine⟨by simp[x.1,y.1],λj u u' h h'=>?_⟩;rw[Array.getElem?_append] at h h';rw[<-x.1] at h';split at h
 .rename_i e;rw[if_pos e] at h';exact x.2 j u u' h h'
 .rename_i e;rw[if_neg e] at h';exact y.2 _ u u' h h'
theorem bL.empty:bL S K R #[] #[]:=⟨rfl,λi v v' h=>by simp at h⟩
def bL.one (h:VR S K R v v'):bL S K R #[v] #[v']:=bL.empty.push h
theorem bL.extract (x:bL S K R xs bV)(i j:Nat):bL S K R (xs.extract i j) (bV.extract i j):=by
 refine⟨by simp[x.1],λk u u' h h'=>?_⟩;rw[Array.getElem?_extract] at h h';split at h
 .rename_i e;rw[<-x.1,if_pos e] at h';exact x.2 _ u u' h h'
 .cases h
def VR.agg' (x:bL S K R xs bV):VR S K R (.agg xs) (.agg bV):=.agg x.1 x.2
def VR.tuple' (x:bL S K R xs bV):VR S K R (.tuple xs) (.tuple bV):=.tuple x.1 x.2
theorem VR.cells (x:VR S K R v v'):bL S K R v.cells v'.cells:=by
 cases x with
 |agg e h=>exact⟨e,h⟩
 |bool b=>exact .one (.bool b)
 |int k n=>exact .one (.int k n)
 |string s=>exact .one (.string s)
 |nilFunc=>exact .one .nilFunc
 |nilIface=>exact .one .nilIface
 |pointer x=>exact .one (.pointer x)
 |slice x=>exact .one (.slice x)
 |map x=>exact .one (.map x)
 |chan x=>exact .one (.chan x)
 |func s e1 h1 e2 h2=>exact .one (.func s e1 h1 e2 h2)
 |iface x=>exact .one (.iface x)
 |tuple e h=>exact .one (.tuple e h)
 |junk h=>
  have e:v'.cells=#[v']:=by cases v'<;>first|rfl|exact h.elim
  rw[e];exact .one (.junk h)
end
structure dB where
 c:bT
 fs:Array Func
 op:aN->Bool
 lw:aN->Bool
 gs:aN->Bool
 dy:Bool
abbrev dB.g (P:dB):Program:={P.c with funcs:=P.fs}
abbrev dB.underlying (P:dB)(t:aM):=P.c.underlying t
abbrev dB.info? (P:dB)(t:aM):=P.c.info? t
abbrev dB.globals (P:dB):=P.c.globals
def By (p:bT)(g:Nat):Bool:=match p.globals[g]? with|some x=>(match p.underlying x.type with|some (.array _ _)=>true|_=>false)|none=>false
structure Gp where
 n:Nat
 tab:Nat->Bool
abbrev pE (p:bT):Gp:=⟨p.globals.size,By p⟩
abbrev dB.gp (P:dB):Gp:=pE P.c
def dB.underlying_g (P:dB)(t:aM):P.g.underlying t=P.c.underlying t:=rfl
def dB.info_g (P:dB)(t:aM):P.g.info? t=P.c.info? t:=rfl
def dB.cells_g (P:dB)(t:aM):P.g.cellsOf t=P.c.cellsOf t:=rfl
def dB.bytes_g (P:dB)(t:aM):P.g.bytesOf t=P.c.bytesOf t:=rfl
def dB.depth_g (P:dB):P.g.depth=P.c.depth:=rfl
theorem dB.byteOfCell_g (P:dB):∀(d:Nat) (t:aM) (o:Nat),byteOfCell P.g d t o=byteOfCell P.c d t o:=by
 intro d
 induction d with
 |zero=>intro t o;rfl
 |succ d ih=>
  intro t o;unfold byteOfCell;rw[P.underlying_g];simp only[ih,P.cells_g,P.bytes_g];rfl
def dB.globals_g (P:dB):P.g.globals=P.c.globals:=rfl
inductive Cb (S:aN->Prop)(K R:Pr):oV->oV->Prop
 |mk {k k' v v':aF} {born:Nat}:VR S K R k k'->VR S K R v v'->Cb S K R ⟨k,v,born⟩ ⟨k',v',born⟩
def rA (S:aN->Prop)(K R:Pr)(es eY:Array oV):Prop:=es.size=eY.size/\∀(i:Nat) (e e':oV),es[i]? =some e->eY[i]? =some e'->Cb S K R e e'
def Lg (fz:Nat×Nat)(o:Nat):Prop:=fz.1<=o/\o<fz.2
inductive oK (S:aN->Prop)(K R:Pr):pX->pX->Prop
 |cells {c c':Array aF} {T:aM} {fz Ix:Nat×Nat}:bL S K R c c'->(∀o,Lg Ix o->Lg fz o)->oK S K R (.cells c T fz) (.cells c' T Ix)
 |map {es eY:Array oV} {cl:Nat}:rA S K R es eY->oK S K R (.map es cl) (.map eY cl)
 |chan {cap s r:Nat} {K4 zp2:Array aF} {closed tm:Bool}:bL S K R K4 zp2->oK S K R (.chan cap K4 closed s r tm) (.chan cap zp2 closed s r tm)
 |stringIter (s:ByteArray) (pos:Nat):oK S K R (.stringIter s pos) (.stringIter s pos)
 |number {a a':bD} {lost:Bool}:fL R a a'->oK S K R (.number a lost) (.number a' lost)
 |mapIter {m m':Option Nat} {since stepped:Nat} {seen:Array Nat}:Fy R m m'->oK S K R (.mapIter m since seen stepped) (.mapIter m' since seen stepped)
section
variable {S:aN->Prop}{K R R':Pr}
theorem Cb.mono (h:R.le R'){e e':oV}(x:Cb S K R e e'):Cb S K R' e e':=by cases x with|mk a b=>exact .mk (a.mono h) (b.mono h)
def rA.mono (h:R.le R'){e e':Array oV}(x:rA S K R e e'):rA S K R' e e':=⟨x.1,λi a b h1 h2=>(x.2 i a b h1 h2).mono h⟩
theorem oK.mono (h:R.le R'){o o':pX}(x:oK S K R o o'):oK S K R' o o':=by
 cases x with
 |cells a b=>exact .cells (a.mono h) b
 |map a=>exact .map (a.mono h)
 |chan a=>exact .chan (a.mono h)
 |stringIter s p=>exact .stringIter s p
 |number a=>exact .number (a.mono h)
 |mapIter a=>exact .mapIter (a.mono h)
end
def o6:Obj:=.cells #[] 0
structure qJ (P:dB)(K R:Pr):Prop where
 inj:∀a b c,R.or K a b->R.or K a c->b=c
 inj':∀a b c,R.or K a c->R.or K b c->a=b
 low:∀a b,R a b->(a<P.globals.size↔b<P.globals.size)
 tb:∀g,By P.c g=true->R g g
structure Fresh (P:dB)(K R:Pr)(n n':Nat):Prop where
 l:∀b,¬R.or K n b
 r:∀a,¬R.or K a n'
 low:P.globals.size<=n/\P.globals.size<=n'
structure wZ (P:dB)(K R R':Pr):Prop where
 le:R.le R'
 ok:qJ P K R->qJ P K R'
variable {P:dB}
def wZ.refl (R:Pr):wZ P K R R:=⟨.refl R,id⟩
def wZ.trans {Qm:Pr}(h:wZ P K R R')(h':wZ P K R' Qm):wZ P K R Qm:=⟨h.le.trans h'.le,λx=>h'.ok (h.ok x)⟩
theorem wZ.add {n n':Nat}(f:Fresh P K R n n'):wZ P K R (R.add n n'):=by
 refine⟨Pr.le_add R n n',λh=>⟨?_,?_,?_,λg hg=>.inl (h.tb g hg)⟩⟩
 .rintro a b c ((x|⟨rfl,rfl⟩)|x) ((y|⟨e,rfl⟩)|y)
  .exact h.inj a b c (.inl x) (.inl y)
  .exact absurd (.inl (e▸x)) (f.l _)
  .exact h.inj a b c (.inl x) (.inr y)
  .exact absurd (.inl y) (f.l _)
  .rfl
  .exact absurd (.inr y) (f.l _)
  .exact h.inj a b c (.inr x) (.inl y)
  .exact absurd (.inr (e▸x)) (f.l _)
  .exact h.inj a b c (.inr x) (.inr y)
 .rintro a b c ((x|⟨rfl,rfl⟩)|x) ((y|⟨rfl,e⟩)|y)
  .exact h.inj' a b c (.inl x) (.inl y)
  .exact absurd (.inl (e▸x)) (f.r _)
  .exact h.inj' a b c (.inl x) (.inr y)
  .exact absurd (.inl y) (f.r _)
  .rfl
  .exact absurd (.inr y) (f.r _)
  .exact h.inj' a b c (.inr x) (.inl y)
  .exact absurd (.inr (e▸x)) (f.r _)
  .exact h.inj' a b c (.inr x) (.inr y)
 .rintro a b (x|⟨rfl,rfl⟩)
  .exact h.low a b x
  .have:=f.low;omega
def Yu:Halt->Prop
 | .panic _| .stuck _=>True
 | .unsupported (.initOrder _)=>False
 | .unsupported _=>True
 |_=>False
def Cj (w:aE):Prop:=∀(b:Nat) (c:Array aF) (e:aM),w.heap[b]?≠some (.pending c e)
def eH (P:dB){α:Type}(s:cP α):Prop:=∀w,Cj w->∃h w',s.run P.g w=.halt h w'/\Yu h
variable {α:Type}{w:aE}
theorem eH.no {s:cP α}(h:eH P s)(hw:Cj w)(x:α)(w':aE):s.run P.g w≠ .ok x w':=by
 obtain⟨_,_,e,_⟩:=h w hw;rw[e];simp
variable {β:Type}
theorem eH.bind {s:cP α}(h:eH P s)(f:α->cP β):eH P (s.bind f):=by
 intro w hw;obtain⟨y,w1,e,ht⟩:=h w hw;exact⟨y,w1,by rw[tP,e];rfl,ht⟩
def Ju (P:dB)(S:aN->Prop)(K:Pr){α β:Type}(A:Pr->α->β->Prop):cP α->Pr->cP β->Prop
 | .pure a,R,s'=>∃b,s'=.pure b/\A R a b
 | .load m a k,R,s'=>m=.plain/\∃a' k',s'=.load .plain a' k'/\fL R a a'/\∀v v',VR S K R v v'->eH P (k v)\/Ju P S K A (k v) R (k' v')
 | .store m a v k,R,s'=>m=.plain/\∃a' v' k',s'=.store .plain a' v' k'/\fL R a a'/\VR S K R v v'/\(eH P k\/Ju P S K A k R k')
 | .new o k,R,s'=>∃o' k',s'=.new o' k'/\oK S K R o o'/\∀n n',Fresh P K R n n'->eH P (k n)\/Ju P S K A (k n) (R.add n n') (k' n')
 | .shape r k,R,s'=>∃r' k',s'=.shape r' k'/\R r r'/\∀x,eH P (k x)\/Ju P S K A (k x) R (k' x)
 | .freeze _ _ _,_,_=>False
 | .frozen a k,R,s'=>∃a' k',s'=.frozen a' k'/\∀x x',eH P (k x)\/Ju P S K A (k x) R (k' x')
 | .getObj r k,R,s'=>∃r' k',s'=.getObj r' k'/\R.or K r r'/\∀o o',oK S K R o o'->eH P (k o)\/Ju P S K A (k o) R (k' o')
 | .setObj r o k,R,s'=>∃r' o' k',s'=.setObj r' o' k'/\R.or K r r'/\oK S K R o o'/\(eH P k\/Ju P S K A k R k')
 | .choose q k,R,s'=>∃k',s'=.choose q k'/\∀n,eH P (k n)\/Ju P S K A (k n) R (k' n)
 | .sys _ _,_,_=>False
 | .program k,R,s'=>∃k',s'=.program k'/\(eH P (k P.g)\/Ju P S K A (k P.g) R (k' P.c))
 | .mark m k,R,s'=>m=.noRoom/\∃k',s'=.mark .noRoom k'/\(eH P k\/Ju P S K A k R k')
 | .halt _,_,_=>False
def aG (P:dB)(S:aN->Prop)(K:Pr){α β:Type}(A:Pr->α->β->Prop)(s:cP α)(R:Pr)(s':cP β):Prop:=eH P s\/Ju P S K A s R s'
section
variable {P:dB}{S:aN->Prop}{K:Pr}{α β γ δ:Type}{A:Pr->α->β->Prop}{B:Pr->γ->δ->Prop}
def aG.pure {R:Pr}{a:α}{b:β}(h:A R a b):aG P S K A (.pure a) R (.pure b):=.inr ⟨b,rfl,h⟩
def eH.halt {h:Halt}(ht:Yu h):eH P (.halt h:cP α):=λw _=>⟨h,w,rfl,ht⟩
theorem aG.bind {s:cP α}:∀{R:Pr} {s':cP β} {f:α->cP γ} {f':β->cP δ},aG P S K A s R s'->(∀R',wZ P K R R'->∀a b,A R' a b->aG P S K B (f a) R' (f' b))->aG P S K B (s.bind f) R (s'.bind f'):=by
 induction s with
 |pure a=>
  rintro R s' f f' (hn|⟨b,rfl,h⟩) hf
  .exact .inl (hn.bind _)
  .exact hf R (.refl R) a b h
 |load m a k ih=>
  rintro R s' f f' (hn|⟨hm,a',k',rfl,ha,hk⟩) hf
  .exact .inl (hn.bind _)
  .exact .inr ⟨hm,a',_,rfl,ha,λv v' hv=>ih v (hk v v' hv) hf⟩
 |store m a v k ih=>
  rintro R s' f f' (hn|⟨hm,a',v',k',rfl,ha,hv,hk⟩) hf
  .exact .inl (hn.bind _)
  .exact .inr ⟨hm,a',v',_,rfl,ha,hv,ih hk hf⟩
 |new o k ih=>
  rintro R s' f f' (hn|⟨o',k',rfl,ho,hk⟩) hf
  .exact .inl (hn.bind _)
  .exact .inr ⟨o',_,rfl,ho,λn n' fS=>ih n (hk n n' fS) λR' hR a b h=>hf R' ((wZ.add fS).trans hR) a b h⟩
 |shape r k ih=>
  rintro R s' f f' (hn|⟨r',k',rfl,hr,hk⟩) hf
  .exact .inl (hn.bind _)
  .exact .inr ⟨r',_,rfl,hr,λx=>ih x (hk x) hf⟩
 |freeze a n k ih=>
  rintro R s' f f' (hn|h) hf
  .exact .inl (hn.bind _)
  .exact h.elim
 |frozen a k ih=>
  rintro R s' f f' (hn|⟨r',k',rfl,hk⟩) hf
  .exact .inl (hn.bind _)
  .exact .inr ⟨r',_,rfl,λx x'=>ih x (hk x x') hf⟩
 |getObj r k ih=>
  rintro R s' f f' (hn|⟨r',k',rfl,hr,hk⟩) hf
  .exact .inl (hn.bind _)
  .exact .inr ⟨r',_,rfl,hr,λo o' ho=>ih o (hk o o' ho) hf⟩
 |setObj r o k ih=>
  rintro R s' f f' (hn|⟨r',o',k',rfl,hr,ho,hk⟩) hf
  .exact .inl (hn.bind _)
  .exact .inr ⟨r',o',_,rfl,hr,ho,ih hk hf⟩
 |choose q k ih=>
  rintro R s' f f' (hn|⟨k',rfl,hk⟩) hf
  .exact .inl (hn.bind _)
  .exact .inr ⟨_,rfl,λn=>ih n (hk n) hf⟩
 |sys c k ih=>
  rintro R s' f f' (hn|h) hf
  .exact .inl (hn.bind _)
  .exact h.elim
 |program k ih=>
  rintro R s' f f' (hn|⟨k',rfl,hk⟩) hf
  .exact .inl (hn.bind _)
  .exact .inr ⟨_,rfl,ih P.g hk hf⟩
 |mark m k ih=>
  rintro R s' f f' (hn|⟨rfl,k',rfl,hk⟩) hf
  .exact .inl (hn.bind _)
  .exact .inr ⟨rfl,_,rfl,ih hk hf⟩
 |halt h=>
  rintro R s' f f' (hn|hx) _
  .exact .inl (hn.bind _)
  .exact hx.elim
theorem aG.mono {A':Pr->α->β->Prop}{s:cP α}:∀{R:Pr} {s':cP β},aG P S K A s R s'->(∀R',wZ P K R R'->∀a b,A R' a b->A' R' a b)->aG P S K A' s R s':=by
 induction s with
 |pure a=>
  rintro R s' (hn|⟨b,rfl,h⟩) hf
  .exact .inl hn
  .exact .inr ⟨b,rfl,hf R (.refl R) a b h⟩
 |load m a k ih=>
  rintro R s' (hn|⟨hm,a',k',rfl,ha,hk⟩) hf
  .exact .inl hn
  .exact .inr ⟨hm,a',_,rfl,ha,λv v' hv=>ih v (hk v v' hv) hf⟩
 |store m a v k ih=>
  rintro R s' (hn|⟨hm,a',v',k',rfl,ha,hv,hk⟩) hf
  .exact .inl hn
  .exact .inr ⟨hm,a',v',_,rfl,ha,hv,ih hk hf⟩
 |new o k ih=>
  rintro R s' (hn|⟨o',k',rfl,ho,hk⟩) hf
  .exact .inl hn
  .exact .inr ⟨o',_,rfl,ho,λn n' fS=>ih n (hk n n' fS) λR' hR a b h=>hf R' ((wZ.add fS).trans hR) a b h⟩
 |shape r k ih=>
  rintro R s' (hn|⟨r',k',rfl,hr,hk⟩) hf
  .exact .inl hn
  .exact .inr ⟨r',_,rfl,hr,λx=>ih x (hk x) hf⟩
 |freeze a n k ih=>
  rintro R s' (hn|h) hf
  .exact .inl hn
  .exact h.elim
 |frozen a k ih=>
  rintro R s' (hn|⟨r',k',rfl,hk⟩) hf
  .exact .inl hn
  .exact .inr ⟨r',_,rfl,λx x'=>ih x (hk x x') hf⟩
 |getObj r k ih=>
  rintro R s' (hn|⟨r',k',rfl,hr,hk⟩) hf
  .exact .inl hn
  .exact .inr ⟨r',_,rfl,hr,λo o' ho=>ih o (hk o o' ho) hf⟩
 |setObj r o k ih=>
  rintro R s' (hn|⟨r',o',k',rfl,hr,ho,hk⟩) hf
  .exact .inl hn
  .exact .inr ⟨r',o',_,rfl,hr,ho,ih hk hf⟩
 |choose q k ih=>
  rintro R s' (hn|⟨k',rfl,hk⟩) hf
  .exact .inl hn
  .exact .inr ⟨_,rfl,λn=>ih n (hk n) hf⟩
 |sys c k ih=>
  rintro R s' (hn|h) hf
  .exact .inl hn
  .exact h.elim
 |program k ih=>
  rintro R s' (hn|⟨k',rfl,hk⟩) hf
  .exact .inl hn
  .exact .inr ⟨_,rfl,ih P.g hk hf⟩
 |mark m k ih=>
  rintro R s' (hn|⟨rfl,k',rfl,hk⟩) hf
  .exact .inl hn
  .exact .inr ⟨rfl,_,rfl,ih hk hf⟩
 |halt h=>
  rintro R s' (hn|hx) _
  .exact .inl hn
  .exact hx.elim
end
structure cV (S:aN->Prop)(K R:Pr)(G:Gp)(St:Nat->Prop)(w W:aE):Prop where
 inj:∀a b c,R.or K a b->R.or K a c->b=c
 inj':∀a b c,R.or K a c->R.or K b c->a=b
 lt:∀a b,R.or K a b->a<w.heap.size/\b<W.heap.size
 low:∀a b,R a b->(a<G.n↔b<G.n)/\(a<G.n->a=b)
 gle:G.n<=w.heap.size/\G.n<=W.heap.size
 cont:∀a b,R a b->∃o o',w.heap[a]? =some o/\W.heap[b]? =some o'/\oK S K R o o'
 rest:∀a b,K a b->(∀c,¬R a c)->w.heap[a]? =some o6
 st:∀a,St a->(∃b,R a b)/\∃c T hi,w.heap[a]? =some (.cells c T (0,hi))/\c.size<=hi
 np:Cj w
 tb:∀g,G.tab g=true->R g g
def Tp (w W:aE):Prop:=∀n q,w.tape (w.drawn+n) q=W.tape (W.drawn+n) q
def Gz (e:Event):Option Nat:=match e.loc with| .cell a=>some a.block| .obj r=>some r|_=>none
def He (R:Pr)(St:Nat->Prop)(e:Event):Prop:=
 e=⟨.mark .noRoom,false,true⟩\/∃b a,Gz e=some b/\R a b/\(e.write=true->¬St a)
variable {St:Nat->Prop}
theorem He.mono (h:R.le R'){e:Event}(x:He R St e):He R' St e:=by
 rcases x with x|⟨b,a,h1,h2,h3⟩
 .exact .inl x
 .exact .inr ⟨b,a,h1,h _ _ h2,h3⟩
structure nC (S:aN->Prop)(K R:Pr)(G:Gp)(St:Nat->Prop)(w W:aE)(R':Pr)(w' W':aE):Prop where
 le:R.le R'
 old:∀a b,R a b->a<w.heap.size/\b<W.heap.size
 rel:cV S K R' G St w' W'
 tape:w'.tape=w.tape/\W'.tape=W.tape
 drawn:∃d,w'.drawn=w.drawn+d/\W'.drawn=W.drawn+d
 os:w'.os=w.os/\W'.os=W.os
 ou:w'.output=w.output/\W'.output=W.output
 size:w.heap.size<=w'.heap.size/\W.heap.size<=W'.heap.size
 new:∀a b,R' a b->R a b\/(w.heap.size<=a/\W.heap.size<=b)
 full:∀b,W.heap.size<=b->b<W'.heap.size->∃a,R' a b/\w.heap.size<=a
 keep:∀b,b<W.heap.size->(∀a,R a b->St a)->W'.heap[b]? =W.heap[b]?
 still:∀a,St a->w'.heap[a]? =w.heap[a]?
 keepG:∀a,a<w.heap.size->(∀b,¬R a b)->w'.heap[a]? =w.heap[a]?
section
variable {P:dB}{S:aN->Prop}{K R R' Qm:Pr}{G:Gp}{St:Nat->Prop}{w W w' W' Ft zqE:aE}
def cV.ltR (h:cV S K R G St w W):∀a b,R a b->a<w.heap.size/\b<W.heap.size:=λa b x=>h.lt a b (.inl x)
def nC.refl (h:cV S K R G St w W):nC S K R G St w W R w W:=
 ⟨.refl R,h.ltR,h,⟨rfl,rfl⟩,⟨0,rfl,rfl⟩,⟨rfl,rfl⟩,⟨rfl,rfl⟩,⟨bN _,bN _⟩,λ_ _ h=>.inl h,λb h1 h2=>absurd h2 aC,λ_ _ _=>rfl,λ_ _=>rfl,λ_ _ _=>rfl⟩
theorem nC.trans (h:nC S K R G St w W R' w' W')(h':nC S K R' G St w' W' Qm Ft zqE):nC S K R G St w W Qm Ft zqE:=by
 obtain⟨d,d1,d2⟩:=h.drawn;obtain⟨e,e1,e2⟩:=h'.drawn;have s1:=h.size;have s2:=h'.size;refine⟨h.le.trans h'.le,h.old,h'.rel,⟨h'.tape.1.trans h.tape.1,h'.tape.2.trans h.tape.2⟩,⟨d+e,aC,aC⟩,⟨h'.os.1.trans h.os.1,h'.os.2.trans h.os.2⟩,⟨h'.ou.1.trans h.ou.1,h'.ou.2.trans h.ou.2⟩,⟨aC,aC⟩,?_,?_,?_,?_,?_⟩
 .intro a b x
  rcases h'.new a b x with x|⟨x,y⟩
  .exact h.new a b x
  omega
 .intro b x y
  rcases Nat.lt_or_ge b W'.heap.size with z|z
  .obtain⟨a,r,g⟩:=h.full b x z
   exact⟨a,h'.le a b r,g⟩
  .obtain⟨a,r,g⟩:=h'.full b z y
   grind
 .intro b x hk
  refine(h'.keep b aC λa r=>?_).trans (h.keep b x hk);rcases h.new a b r with r'|⟨_,r'⟩
  .exact hk a r'
  .omega
 .intro a x;exact(h'.still a x).trans (h.still a x)
 .intro a x y
  refine(h'.keepG a aC λb r=>?_).trans (h.keepG a x y);rcases h.new a b r with r'|⟨r',_⟩
  .exact y b r'
  .omega
end
section
variable {P:dB}{S:aN->Prop}{K R R':Pr}{G:Gp}{St:Nat->Prop}{w W w' W':aE}
def zxV:(Mode.plain==Mode.atomic)=false:=rfl
variable {o:pX}
def zuk {w:aE}{a:Nat}(h:w.heap[a]? =some o):a<w.heap.size:=(eE.1 h).1
variable {o':pX}
theorem oK.live {S:aN->Prop}{K R:Pr}(h:oK S K R o o'):∀c e,o≠ .pending c e:=by cases h<;>simp
theorem Cj.set {w:aE}(h:Cj w){a:Nat}(ho:∀c e,o≠ .pending c e):Cj {w with heap:=w.heap.setIfInBounds a o}:=by
 intro b c e;by_cases hb:a=b
 .grind
 .simp only[rN hb];exact h b c e
theorem Cj.push {w:aE}(h:Cj w)(ho:∀c e,o≠ .pending c e):Cj {w with heap:=w.heap.push o}:=by
 intro b c e;simp only[zlv];split
 .simp_all
 .exact h b c e
theorem nC.upd (h:cV S K R G St w W){a b:Nat}(r:R a b)(ns:¬St a)(ho:oK S K R o o'):
 nC S K R G St w W R {w with heap:=w.heap.setIfInBounds a o} {W with heap:=W.heap.setIfInBounds b o'}:=by
 obtain⟨l1,l2⟩:=h.ltR a b r;refine⟨.refl R,h.ltR,⟨h.inj,h.inj',λx y z=>by simpa using h.lt x y z,h.low,by simpa using h.gle,λx y z=>?_,λx y' hx nf=>?_,λx sx=>?_,Cj.set h.np ho.live,h.tb⟩,⟨rfl,rfl⟩,⟨0,rfl,rfl⟩,⟨rfl,rfl⟩,⟨rfl,rfl⟩,⟨aQ,aQ⟩,λ_ _ h=>.inl h,λx h1 h2=>absurd h2 pR,λx hx hk=>?_,λx sx=>?_,λx hx nf=>?_⟩
 .by_cases e:x=a
  .subst e
   have:=h.inj x y b (.inl z) (.inl r);simp_all
  .have e':y≠b:=λe'=>e (h.inj' x a b (.inl (e'▸z)) (.inl r))
   obtain⟨p,q,h1,h2,h3⟩:=h.cont x y z
   grind
 .have e:x≠a:=λe=>nf b (e▸r)
  have:=h.rest x _ hx nf
  grind
 .have e:x≠a:=λe=>ns (e▸sx)
  obtain⟨fx,c,T,hi,h1,h2⟩:=h.st x sx
  grind
 .grind
 .grind
 grind
theorem Yf {w:aE}{b o:Nat}{c:Array aF}{T:aM}{fz:Nat×Nat}(h:w.heap[b]? =some (.cells c T fz))(v:aF):
 w.setCell ⟨b,o,none⟩ v={w with heap:=w.heap.setIfInBounds b (.cells (c.setIfInBounds o v) T fz)}:=by
 have hl:=zuk h;have hb:w.heap[b]=.cells c T fz:=by simpa[qA hl] using h
 unfold zaI;congr 1
 grind
theorem nC.push (h:cV S K R G St w W)(ho:oK S K R o o'):
 nC S K R G St w W (R.add w.heap.size W.heap.size) {w with heap:=w.heap.push o} {W with heap:=W.heap.push o'}:=by
 have l1:∀a b,R.or K a b->a≠w.heap.size:=λa b x e=>by have:=(h.lt a b x).1;omega
 have l2:∀a b,R.or K a b->b≠W.heap.size:=λa b x e=>by have:=(h.lt a b x).2;omega
 have g1:=h.gle;refine⟨Pr.le_add _ _ _,h.ltR,⟨?_,?_,?_,?_,pR,?_,?_,?_,Cj.push h.np ho.live,λg hg=>.inl (h.tb g hg)⟩,⟨rfl,rfl⟩,⟨0,rfl,rfl⟩,⟨rfl,rfl⟩,⟨rfl,rfl⟩,⟨aQ,aQ⟩,?_,?_,?_,?_,?_⟩
 .rintro a b c ((x|⟨rfl,rfl⟩)|x) ((y|⟨e,rfl⟩)|y)
  .exact h.inj a b c (.inl x) (.inl y)
  .exact absurd e (l1 _ _ (.inl x))
  .exact h.inj a b c (.inl x) (.inr y)
  .exact absurd rfl (l1 _ _ (.inl y))
  .rfl
  .exact absurd rfl (l1 _ _ (.inr y))
  .exact h.inj a b c (.inr x) (.inl y)
  .exact absurd e (l1 _ _ (.inr x))
  .exact h.inj a b c (.inr x) (.inr y)
 .rintro a b c ((x|⟨rfl,rfl⟩)|x) ((y|⟨rfl,e⟩)|y)
  .exact h.inj' a b c (.inl x) (.inl y)
  .exact absurd e (l2 _ _ (.inl x))
  .exact h.inj' a b c (.inl x) (.inr y)
  .exact absurd rfl (l2 _ _ (.inl y))
  .rfl
  .exact absurd rfl (l2 _ _ (.inr y))
  .exact h.inj' a b c (.inr x) (.inl y)
  .exact absurd e (l2 _ _ (.inr x))
  .exact h.inj' a b c (.inr x) (.inr y)
 .rintro a b ((x|⟨rfl,rfl⟩)|x)
  .have:=h.lt a b (.inl x);simp;omega
  .simp
  .have:=h.lt a b (.inr x);simp;omega
 .rintro a b (x|⟨rfl,rfl⟩)
  .exact h.low a b x
  omega
 .rintro a b (x|⟨rfl,rfl⟩)
  .obtain⟨p,q,h1,h2,h3⟩:=h.cont a b x
   exact⟨p,q,by grind,by grind,h3.mono (Pr.le_add _ _ _)⟩
  .exact⟨o,o',aQ,aQ,ho.mono (Pr.le_add _ _ _)⟩
 .intro a b' ha nf
  have e:a≠w.heap.size:=λe=>nf _ (.inr ⟨e,rfl⟩);have hl:a<w.heap.size:=(h.lt a b' (.inr ha)).1;have:=h.rest a b' ha (λb f=>nf b (.inl f));rw[zu5 hl,<-this,qA]
 .intro a sa
  obtain⟨⟨b,fa⟩,c,T,hi,h1,h2⟩:=h.st a sa;exact⟨⟨b,.inl fa⟩,c,T,hi,by rw[zu5 (zuk h1),<-h1,qA],h2⟩
 .rintro a b (x|⟨rfl,rfl⟩)
  .exact .inl x
  omega
 .intro b x y
  simp only[Array.size_push] at y;obtain rfl:b=W.heap.size:=aC;exact⟨_,.inr ⟨rfl,rfl⟩,bN _⟩
 .grind
 .intro a sa
  obtain⟨fa,c,T,hi,h1,h2⟩:=h.st a sa
  grind
 grind
def nC.draw (h:cV S K R G St w W):nC S K R G St w W R {w with drawn:=w.drawn+1} {W with drawn:=W.drawn+1}:=
 ⟨.refl R,h.ltR,⟨h.inj,h.inj',h.lt,h.low,h.gle,h.cont,h.rest,h.st,h.np,h.tb⟩,⟨rfl,rfl⟩,⟨1,rfl,rfl⟩,⟨rfl,rfl⟩,⟨rfl,rfl⟩,⟨bN _,bN _⟩,λ_ _ h=>.inl h,λb h1 h2=>absurd h2 pR,λ_ _ _=>rfl,λ_ _=>rfl,λ_ _ _=>rfl⟩
theorem Tp.step (h:Tp w W)(s:nC S K R G St w W R' w' W'):Tp w' W':=by
 obtain⟨d,d1,d2⟩:=s.drawn;intro n q;rw[s.tape.1,s.tape.2,d1,d2,zcq,zcq];exact h (d+n) q
end
def zY (P:dB)(S:aN->Prop)(K:Pr){α β:Type}(A:Pr->α->β->Prop)(R:Pr)(G:Gp)(St:Nat->Prop)(w W:aE)(s':cP β)(x:α)(w':aE):Prop:=
 ∃R' x' W' ev,s'.run P.c W=.ok x' W'/\A R' x x'/\nC S K R G St w W R' w' W'/\(∀es,s'.events P.c W es=es++ev)/\∀e∈ev,He R' St e
variable {S:aN->Prop}{W w':aE}{e₁:Array Event}
theorem zY.after {A:Pr->α->β->Prop}{ziO:Pr}{G:Gp}{aJ aY:aE}{s' s₁':cP β}{x:α}
 (vZ:nC S K R G St w W ziO aJ aY) (hr:s'.run P.c W=s₁'.run P.c aY) (he:∀es,s'.events P.c W es=s₁'.events P.c aY (es++e₁)) (bU:∀e∈e₁,He ziO St e) (h:zY P S K A ziO G St aJ aY s₁' x w'):zY P S K A R G St w W s' x w':=by
 obtain⟨R',x',W',ev,a,b,c,d,e⟩:=h;refine⟨R',x',W',e₁++ev,hr.trans a,b,vZ.trans c,λes=>by simp_all,λy hy=>?_⟩;rcases Array.mem_append.1 hy with hy|hy
 .exact(bU y hy).mono c.le
 .exact e y hy
theorem oK.shape {G:Gp}(h:cV S K R G St w W){r r':Nat}(x:R r r'):W.shape? r'=w.shape? r:=by
 obtain⟨o,o',h1,h2,h3⟩:=h.cont r r' x;unfold zag;rw[h1,h2]
 cases h3 with
 |cells hc _=>simp[hc.1]
 |_=>rfl
theorem cV.orR {G:Gp}(h:cV S K R G St w W){a b:Nat}(x:R.or K a b):R a b\/w.heap[a]? =some o6:=by
 by_cases e:∃c,R a c
 .obtain⟨c,e⟩:=e
  exact .inl (h.inj a b c x (.inl e)▸e)
 .exact .inr (h.rest a b (x.resolve_left λy=>e ⟨b,y⟩) (λc y=>e ⟨c,y⟩))
theorem aG.run {A:Pr->α->β->Prop}{G:Gp}(hG:G=P.gp){x:α}(s:cP α):
 ∀{R:Pr} {w W:aE} {s':cP β},aG P S K A s R s'->cV S K R G St w W->Tp w W->s.run P.g w=.ok x w'->zY P S K A R G St w W s' x w':=by
 induction s with
 |pure a=>
  rintro R w W s' (hn|⟨b,rfl,h⟩) hw ht hr
  .exact absurd hr (hn.no hw.np _ _)
  simp only[bK,Result.ok.injEq] at hr;obtain⟨rfl,rfl⟩:=hr;exact⟨R,b,W,#[],rfl,h,.refl hw,λes=>by unfold zO;rw[zZ];simp,λe he=>by simp at he⟩
 |load m a k ih=>
  rintro R w W s' (hn|⟨rfl,a',k',rfl,ha,hk⟩) hw ht hr
  .exact absurd hr (hn.no hw.np _ _)
  obtain⟨qK⟩:=ha;rename_i b b' o sp
  .obtain⟨ob,C6,h1,h2,h3⟩:=hw.cont b b' qK
   cases h3 with
   |cells hc hz=>
    rename_i c c' T fz Ix
    cases sp with
    |some sp=>simp[bK,lN,h1,zF,rB] at hr
    |none=>
     cases hv:c[o]? with
     |none=>simp[bK,lN,h1,zF,rB,hv] at hr
     |some v=>
      obtain⟨v',Oc,vX⟩:=hc.get hv;have e1:w.cell? ⟨b,o,none⟩=some v:=by simp[lN,h1,hv]
      have e2:W.cell? ⟨b',o,none⟩=some v':=by simp[lN,h2,Oc]
      rw[bK,e1] at hr;refine zY.after (e₁:=#[⟨.cell ⟨b',o,none⟩,false,false⟩]) (.refl hw) (by rw[bK,e2]) (λes=>by unfold zO;rw[zZ,e2];simp[zxV]) ?_ (ih v (hk v v' vX) hw ht hr);intro e he;simp at he;subst he;exact .inr ⟨b',b,rfl,qK,aQ⟩
   |map x=>simp[bK,lN,h1,zF,rB] at hr
   |chan x=>simp[bK,lN,h1,zF,rB] at hr
   |stringIter x y=>simp[bK,lN,h1,zF,rB] at hr
   |mapIter x=>simp[bK,lN,h1,zF,rB] at hr
   |number x=>simp[bK,lN,h1,zF,rB] at hr
 |store m a v k ih=>
  rintro R w W s' (hn|⟨rfl,a',v',k',rfl,ha,hv,hk⟩) hw ht hr
  .exact absurd hr (hn.no hw.np _ _)
  obtain⟨qK⟩:=ha;rename_i b b' o sp;have Tw:∀cs,v≠ .agg cs:=by rintro cs rfl;simp[bK] at hr
  have Gs:∀cs,v≠ .tuple cs:=by rintro cs rfl;simp[bK] at hr
  have zvZ:∀cs,v'≠ .agg cs:=by rintro cs rfl;cases hv<;>first|exact Tw _ rfl|exact Gs _ rfl|(rename_i hh;exact hh.elim)
  have zo0:∀cs,v'≠ .tuple cs:=by rintro cs rfl;cases hv<;>first|exact Gs _ rfl|(rename_i hh;exact hh.elim)
  rw[bK] at hr
  rotate_left
  .exact λcs=>Tw cs
  .exact λcs=>Gs cs
  .obtain⟨ob,C6,h1,h2,h3⟩:=hw.cont b b' qK
   cases h3 with
   |cells hc hz=>
    rename_i c c' T fz Ix
    cases sp with
    |some sp=>simp[lN,h1,Dq,rB] at hr
    |none=>
     cases gQ:c[o]? with
     |none=>simp[lN,h1,Dq,rB,gQ] at hr
     |some v0=>
      obtain⟨zES,zFi,_⟩:=hc.get gQ;have e1:w.cell? ⟨b,o,none⟩=some v0:=by simp[lN,h1,gQ]
      have e2:W.cell? ⟨b',o,none⟩=some zES:=by simp[lN,h2,zFi]
      rw[e1] at hr;simp only at hr
      cases nQ:w.frozen? ⟨b,o,none⟩ with
      |true=>simp_all
      |false=>
       rw[nQ] at hr;simp only[gK,if_false] at hr;have V3:¬Lg fz o:=by
        intro⟨z1,z2⟩;simp[Il,h1,z1,z2] at nQ
       have Ac:¬St b:=by
        intro hs;obtain⟨_,c2,T2,hi,g1,g2⟩:=hw.st b hs;rw[h1] at g1;injection g1 with g1;injection g1 with g1 _ g3;subst g1 g3;exact V3 ⟨mP _,jW (eE.1 gQ).1 g2⟩
       have zqZ:W.frozen? ⟨b',o,none⟩=false:=by
        simp only[Il,h2]
        cases hq:(decide (Ix.1<=o)&&decide (o<Ix.2)) with
        |false=>rfl
        |true=>simp at hq;exact absurd (hz o hq) V3
       rw[Yf h1] at hr;refine zY.after (e₁:=#[⟨.cell ⟨b',o,none⟩,true,false⟩]) (nC.upd hw qK Ac (.cells (hc.set o hv) hz)) (s₁':=k') ?_ ?_ ?_ (ih hk (nC.upd hw qK Ac (.cells (hc.set o hv) hz)).rel (ht.step (nC.upd hw qK Ac (.cells (hc.set o hv) hz))) hr)
       .rw[bK]
        rotate_left
        .exact λcs=>zvZ cs
        .exact λcs=>zo0 cs
        rw[e2];simp only[zqZ,gK,if_false];rw[Yf h2]
       .intro es
        unfold zO;rw[zZ]
        rotate_left
        .exact λcs=>zvZ cs
        .exact λcs=>zo0 cs
        rw[e2];simp only[zqZ,gK,if_false];rw[Yf h2];simp[zxV]
       .intro e he
        simp at he;subst he;exact .inr ⟨b',b,rfl,qK,λ_=>Ac⟩
   |map x=>simp[lN,h1,Dq,rB] at hr
   |chan x=>simp[lN,h1,Dq,rB] at hr
   |stringIter x y=>simp[lN,h1,Dq,rB] at hr
   |mapIter x=>simp[lN,h1,Dq,rB] at hr
   |number x=>simp[lN,h1,Dq,rB] at hr
 |new o k ih=>
  rintro R w W s' (hn|⟨o',k',rfl,ho,hk⟩) hw ht hr
  .exact absurd hr (hn.no hw.np _ _)
  rw[bK] at hr;exact zY.after (e₁:=#[]) (nC.push hw ho) M2 (λes=>by unfold zO;rw[zZ];simp) (λe he=>by simp at he) (ih _ (hk _ _ ⟨λb hb=>absurd (hw.lt _ _ hb).1 (Jn _),λa ha=>absurd (hw.lt _ _ ha).2 (Jn _),by subst hG;exact hw.gle⟩) (nC.push hw ho).rel (ht.step (nC.push hw ho)) hr)
 |shape r k ih=>
  rintro R w W s' (hn|⟨r',k',rfl,s7,hk⟩) hw ht hr
  .exact absurd hr (hn.no hw.np _ _)
  rw[bK] at hr;exact zY.after (e₁:=#[]) (.refl hw) (by rw[bK,oK.shape hw s7]) (λes=>by unfold zO;rw[zZ,oK.shape hw s7];simp) (λe he=>by simp at he) (ih _ (hk _) hw ht hr)
 |freeze a n k ih=>
  rintro R w W s' (hn|h) hw ht hr
  .exact absurd hr (hn.no hw.np _ _)
  .exact h.elim
 |frozen a k ih=>
  rintro R w W s' (hn|⟨r',k',rfl,hk⟩) hw ht hr
  .exact absurd hr (hn.no hw.np _ _)
  rw[bK] at hr;exact zY.after (e₁:=#[]) (.refl hw) M2 (λes=>by unfold zO;rw[zZ];simp) (λe he=>by simp at he) (ih _ (hk _ _) hw ht hr)
 |getObj r k ih=>
  rintro R w W s' (hn|⟨r',k',rfl,s7,hk⟩) hw ht hr
  .exact absurd hr (hn.no hw.np _ _)
  rw[bK] at hr
  .replace s7:R r r':=by
    rcases hw.orR s7 with x|x
    .exact x
    .rw[x] at hr;simp[o6] at hr
   obtain⟨ob,C6,h1,h2,h3⟩:=hw.cont r r' s7;rw[h1] at hr;have go:(∀c T fz,ob≠ .cells c T fz)->(∀c T fz,C6≠ .cells c T fz)->zY P S K A R G St w W (.getObj r' k') x w':=by
    intro n1 n2;refine zY.after (e₁:=#[⟨.obj r',false,C6.isChan⟩]) (.refl hw) (s₁':=k' C6) ?_ ?_ ?_ (ih ob (hk _ _ h3) hw ht ?_)
    .rw[bK,h2];simp_all
    .intro es;unfold zO;rw[zZ,h2];simp_all
    .intro e he
     simp at he;subst he;exact .inr ⟨r',r,rfl,s7,aQ⟩
    .simp_all
   cases h3 with
   |cells hc hz=>simp at hr
   |map x=>simp_all
   |chan x=>simp_all
   |stringIter x y=>simp_all
   |mapIter x=>simp_all
   |number x=>simp_all
 |setObj r o k ih=>
  rintro R w W s' (hn|⟨r',o',k',rfl,s7,ho,hk⟩) hw ht hr
  .exact absurd hr (hn.no hw.np _ _)
  rw[bK] at hr
  .replace s7:R r r':=by
    rcases hw.orR s7 with x|x
    .exact x
    .rw[x] at hr;simp[o6] at hr
   obtain⟨ob,C6,h1,h2,h3⟩:=hw.cont r r' s7;rw[h1] at hr;have go:(∀c T fz,ob≠ .cells c T fz)->(∀c T fz,C6≠ .cells c T fz)->zY P S K A R G St w W (.setObj r' o' k') x w':=by
    intro n1 n2;have Ac:¬St r:=by
     intro hs;obtain⟨_,c2,T2,hi,g1,g2⟩:=hw.st r hs;rw[h1] at g1;injection g1 with g1;exact n1 _ _ _ g1
    refine zY.after (e₁:=#[⟨.obj r',true,o'.isChan⟩]) (nC.upd hw s7 Ac ho) (s₁':=k') ?_ ?_ ?_ (ih hk (nC.upd hw s7 Ac ho).rel (ht.step (nC.upd hw s7 Ac ho)) ?_)
    .rw[bK,h2];simp_all
    .intro es;unfold zO;rw[zZ,h2];simp_all
    .intro e he
     simp at he;subst he;exact .inr ⟨r',r,rfl,s7,λ_=>Ac⟩
    .simp_all
   cases h3 with
   |cells hc hz=>simp at hr
   |map x=>simp_all
   |chan x=>simp_all
   |stringIter x y=>simp_all
   |mapIter x=>simp_all
   |number x=>simp_all
 |choose q k ih=>
  rintro R w W s' (hn|⟨k',rfl,hk⟩) hw ht hr
  .exact absurd hr (hn.no hw.np _ _)
  rw[bK] at hr
  cases hq:q.forced with
  |true=>
   rw[hq] at hr;simp only[if_true] at hr;exact zY.after (e₁:=#[]) (.refl hw) (by rw[bK,hq];simp) (λes=>by unfold zO;rw[zZ,hq];simp) (λe he=>by simp at he) (ih 0 (hk 0) hw ht hr)
  |false=>
   rw[hq] at hr;simp only[gK,if_false] at hr;have ea:w.tape w.drawn q=W.tape W.drawn q:=ht 0 q;rw[ea] at hr;exact zY.after (e₁:=#[]) (nC.draw hw) (by rw[bK,hq];simp) (λes=>by unfold zO;rw[zZ,hq];simp) (λe he=>by simp at he) (ih _ (hk _) (nC.draw hw).rel (ht.step (nC.draw hw)) hr)
 |sys c k ih=>
  rintro R w W s' (hn|h) hw ht hr
  .exact absurd hr (hn.no hw.np _ _)
  .exact h.elim
 |program k ih=>
  rintro R w W s' (hn|⟨k',rfl,hk⟩) hw ht hr
  .exact absurd hr (hn.no hw.np _ _)
  rw[bK] at hr;exact zY.after (e₁:=#[]) (.refl hw) M2 (λes=>by unfold zO;rw[zZ];simp) (λe he=>by simp at he) (ih _ hk hw ht hr)
 |mark m k ih=>
  rintro R w W s' (hn|⟨rfl,k',rfl,hk⟩) hw ht hr
  .exact absurd hr (hn.no hw.np _ _)
  .rw[bK] at hr
   exact zY.after (e₁:=#[⟨.mark .noRoom,false,true⟩]) (.refl hw) M2 (λes=>by unfold zO;rw[zZ];simp) (λe he=>by simp at he;exact .inl he) (ih hk hw ht hr)
 |halt h=>simp_all
section
variable {P:dB}{S:aN->Prop}{K:Pr}{α β γ δ:Type}{R:Pr}
abbrev lH {α:Type}:Pr->α->α->Prop:=λ_ a b=>a=b
abbrev VA (S:aN->Prop)(K:Pr):Pr->aF->aF->Prop:=λR v v'=>VR S K R v v'
def aG.bnd {A:Pr->α->β->Prop}{B:Pr->γ->δ->Prop}{s:cP α}{s':cP β}{f:α->cP γ}{f':β->cP δ}(h:aG P S K A s R s')(hf:∀R',wZ P K R R'->∀a b,A R' a b->aG P S K B (f a) R' (f' b)):
 aG P S K B (s>>=f) R (s'>>=f'):=aG.bind h hf
def aG.ret {A:Pr->α->β->Prop}{a:α}{b:β}(h:A R a b):aG P S K A (lZ a:cP α) R (lZ b:cP β):=aG.pure h
def bM {Uk:String}:eH P (stuck Uk:cP α):=eH.halt trivial
variable {u:Unsupported}
theorem jN (hu:Yu (.unsupported u):=by trivial):eH P (unsupported u:cP α):=eH.halt hu
variable {v:aF}
def zeA :eH P (goPanic v:cP α):=eH.halt trivial
def eH.bnd {s:cP α}(h:eH P s)(f:α->cP β):eH P (s>>=f):=h.bind f
def nL (P:dB)(s:cP α):Prop:=∀w,Cj w->(∃a w',s.run P.g w=.ok a w'/\Cj w')\/∃h w',s.run P.g w=.halt h w'/\Yu h
def nL.never {s:cP α}(h:eH P s):nL P s:=λw hw=>.inr (h w hw)
def nL.ret (a:α):nL P (lZ a:cP α):=λw hw=>.inl ⟨a,w,rfl,hw⟩
theorem nL.bnd {s:cP α}{f:α->cP β}(h:nL P s)(hf:∀a,nL P (f a)):nL P (s>>=f):=by
 intro w hw;have e:(s>>=f).run P.g w=_:=tP P.g s f w;rcases h w hw with⟨a,w',h1,h2⟩|⟨y,w',h1,h2⟩
 .rcases hf a w' h2 with⟨b,w2,h3,h4⟩|⟨y,w2,h3,h4⟩
  .exact .inl ⟨b,w2,by rw[e,h1];exact h3,h4⟩
  simp_all
 simp_all
def zk2:nL P program:=λw hw=>.inl ⟨P.g,w,rfl,hw⟩
theorem znj (q:Question):nL P (choose q):=λw hw=>by
 unfold choose bK;split
 .exact .inl ⟨0,w,rfl,hw⟩
 .exact .inl ⟨_,_,rfl,hw⟩
def zEV (r:Nat):nL P (shape r):=λw hw=>.inl ⟨_,w,rfl,hw⟩
variable {o:pX}
def zEc (ho:∀c e,o≠ .pending c e):nL P (newObj o):=λw hw=>.inl ⟨_,_,rfl,Cj.push hw ho⟩
theorem zD3 (t:aM):nL P (underlying t):=by
 unfold underlying;refine zk2.bnd λp=>?_;split
 .exact nL.ret _
 .exact .never bM
theorem zBv (t:aM)(v:aF):nL P (newVar t v):=by
 unfold newVar newRow;exact(zEc aQ).bnd λ_=>nL.ret _
theorem zG8 (t:aM):nL P (elemOf t):=by
 unfold elemOf;refine(zD3 t).bnd λd=>?_;split
 .exact nL.ret _
 .exact .never bM
def zz1 (a:bD):nL P (frozen a):=λw hw=>.inl ⟨_,w,rfl,hw⟩
def zyZ (m:Mark):nL P (mark m):=λw hw=>.inl ⟨_,w,rfl,hw⟩
theorem zuW (a:bD)(n:Nat):nL P (zkP a n):=by
 unfold zkP;refine(zEV _).bnd λx=>?_;split<;>exact nL.ret _
theorem zye (size zc0 n:Nat)(base:Option bD)(x:aF):nL P (zwp size zc0 n base x):=by
 unfold zwp;have tail:∀b:Bool,nL P (match x with
  | .slice (some b) _ _=>do pure (!(<-zkP b (n*size))||base.any (·.block==b.block))
  |_=>pure false:cP Bool):=λ_=>by
  split
  .exact(zuW _ _).bnd λ_=>nL.ret _
  .exact nL.ret _
 cases base with
 |none=>
  refine(nL.ret true).bnd λthere=>?_;cases there
  .exact nL.ret _
  .exact tail true
 |some a=>
  refine(zuW _ _).bnd λh1=>(zz1 _).bnd λh2=>?_;refine(nL.ret _).bnd λthere=>?_;cases there
  .exact nL.ret _
  .exact tail true
theorem eH.then {s:cP α}{f:α->cP β}(hs:nL P s)(h:∀a,eH P (f a)):eH P (s>>=f):=by
 intro w hw;have e:(s>>=f).run P.g w=_:=tP P.g s f w;rcases hs w hw with⟨a,w',h1,h2⟩|⟨y,w',h1,h2⟩
 .obtain⟨y,w2,h3,h4⟩:=h a w' h2
  simp_all
 simp_all
variable {e:RuntimeError}
theorem vR :eH P (runtimePanic e:cP α):=by
 unfold runtimePanic;refine eH.then zk2 λp=>?_;cases e<;>first|exact zeA|(refine eH.then (zG8 _) λ_=>?_;refine eH.then (zBv _ _) λ_=>?_;exact zeA)
theorem Zq {k:Cm}{x y:Int}{c:zmq}:eH P (boundsPanic k x y c:cP α):=by
 unfold boundsPanic;simp only;split
 .refine eH.then ?_ λ_=>vR
  exact(znj _).bnd λ_=>nL.ret _
 .exact eH.then (nL.ret _) λ_=>vR
def Ql:aG P S K (λ_ a b=>a=P.g/\b=P.c) program R program:=.inr ⟨_,rfl,.inr ⟨P.c,rfl,rfl,rfl⟩⟩
def ze3 (q:Question):aG P S K lH (choose q) R (choose q):=.inr ⟨_,rfl,λn=>.inr ⟨n,rfl,rfl⟩⟩
theorem mK (t:aM):aG P S K (λ_ a b=>a=b/\P.underlying t=some a) (underlying t) R (underlying t):=by
 unfold underlying;refine aG.bnd Ql ?_;rintro R' _ a b ⟨ha,hb⟩;rw[ha,hb,P.underlying_g]
 cases h:P.c.underlying t with
 |some d=>exact aG.ret ⟨rfl,h⟩
 |none=>exact .inl bM
theorem Gl (t:aM):aG P S K (λ_ a b=>a=b/\P.info? t=some a) (typeInfo t) R (typeInfo t):=by
 unfold typeInfo;refine aG.bnd Ql ?_;rintro R' _ a b ⟨ha,hb⟩;rw[ha,hb,P.info_g]
 cases h:P.c.info? t with
 |some d=>exact aG.ret ⟨rfl,h⟩
 |none=>exact .inl bM
def Iv (P:dB)(S:aN->Prop):Prop:=∀(K R:Pr) t i z,P.info? t=some i->i.zero=some z->VR S K R z z
theorem Pz (hz:Iv P S)(t:aM):aG P S K (VA S K) (zeroValue t) R (zeroValue t):=by
 unfold zeroValue;refine aG.bnd (Gl t) ?_;rintro R' _ a b ⟨rfl,h⟩
 cases h2:a.zero with
 |some z=>exact aG.ret (hz K R' t a z h h2)
 |none=>exact .inl jN
theorem Ba (t:aM):aG P S K lH (sizeOf t) R (sizeOf t):=by
 unfold sizeOf;refine aG.bnd (Gl t) ?_;rintro R' _ a b ⟨rfl,h⟩;exact aG.ret rfl
theorem zop (t:aM):aG P S K lH (isAgg t) R (isAgg t):=by
 unfold isAgg;refine aG.bnd (mK t) ?_;rintro R' _ a b ⟨rfl,h⟩;cases a<;>exact aG.ret rfl
variable {v':aF}
theorem zec (h:VR S K R v v'):aG P S K lH (asIntOf v) R (asIntOf v'):=by
 cases h with
 |int k n=>exact aG.ret rfl
 |pointer x=>cases x<;>first|exact .inl jN|exact .inl bM
 |_=>exact .inl bM
theorem Zi (h:VR S K R v v'):aG P S K lH (asInt v) R (asInt v'):=by
 unfold asInt;refine aG.bnd (zec h) ?_;rintro R' _ a b rfl;exact aG.ret rfl
theorem zvx (h:VR S K R v v'):aG P S K lH (asBool v) R (asBool v'):=by
 cases h with
 |bool b=>exact aG.ret rfl
 |_=>exact .inl bM
theorem zp5 (h:VR S K R v v'):aG P S K (λR a b=>fL R a b) (asAddr v) R (asAddr v'):=by
 cases h with
 |pointer x=>
  cases x with
  |none=>exact .inl (by unfold asAddr;exact vR)
  |some x=>exact aG.ret x
 |_=>exact .inl bM
theorem zas (h:VR S K R v v'):aG P S K (λR a b=>fL R a b) (ztm v) R (ztm v'):=by
 cases h with
 |pointer x=>
  cases x with
  |none=>exact .inl bM
  |some x=>exact aG.ret x
 |_=>exact .inl bM
variable {a a':bD}
def zqI (h:fL R a a'):aG P S K (VA S K) (load a) R (load a'):=.inr ⟨rfl,a',_,rfl,h,λv v' hv=>.inr ⟨v',rfl,hv⟩⟩
def zDL (h:fL R a a')(hv:VR S K R v v'):aG P S K lH (store a v) R (store a' v'):=.inr ⟨rfl,a',v',_,rfl,h,hv,.inr ⟨(),rfl,rfl⟩⟩
variable {o':pX}
def zeL (h:oK S K R o o'):aG P S K (λR a b=>R a b) (newObj o) R (newObj o'):=.inr ⟨o',_,rfl,h,λn n' _=>.inr ⟨n',rfl,.inr ⟨rfl,rfl⟩⟩⟩
variable {r r':Nat}
def za0 (h:R r r'):aG P S K lH (shape r) R (shape r'):=.inr ⟨r',_,rfl,h,λx=>.inr ⟨x,rfl,rfl⟩⟩
def Ul (h:R r r'):aG P S K (λR o o'=>oK S K R o o') (getObj r) R (getObj r'):=.inr ⟨r',_,rfl,.inl h,λo o' ho=>.inr ⟨o',rfl,ho⟩⟩
def zcl (h:R r r')(ho:oK S K R o o'):aG P S K lH (setObj r o) R (setObj r' o'):=.inr ⟨r',o',_,rfl,.inl h,ho,.inr ⟨(),rfl,rfl⟩⟩
def znS (h:R.or K r r'):aG P S K (λR o o'=>oK S K R o o') (getObj r) R (getObj r'):=.inr ⟨r',_,rfl,h,λo o' ho=>.inr ⟨o',rfl,ho⟩⟩
theorem ziV (n:Nat):aG P S K lH (askRoom n) R (askRoom n):=by
 unfold askRoom;split
 .exact .inr ⟨rfl,_,rfl,.inr ⟨(),rfl,rfl⟩⟩
 .exact aG.ret rfl
theorem fL.add (h:fL R a a')(n:Nat):fL R (a.add n) (a'.add n):=by
 cases h with
 |mk h=>unfold zez;split<;>exact .mk h
theorem xP.map {a a':Option bD}(h:xP R a a')(n:Nat):xP R (a.map (·.add n)) (a'.map (·.add n)):=by
 cases h with
 |none=>exact .none
 |some h=>exact .some (h.add n)
theorem zvN :∀(n i:Nat) {R:Pr} {acc zgX:Array aF},fL R a a'->bL S K R acc zgX->aG P S K (λR x y=>bL S K R x y) (loadCellsFrom a i n acc) R (loadCellsFrom a' i n zgX)
 |0,i,R,acc,zgX,h,hc=>aG.ret hc
 |n+1,i,R,acc,zgX,h,hc=>by
  unfold loadCellsFrom;refine aG.bnd (zqI (h.add i)) ?_;intro R' hR v v' hv;exact zvN n (i+1) (h.mono hR.le) ((hc.mono hR.le).push hv)
def zjR (h:fL R a a')(n:Nat):aG P S K (λR x y=>bL S K R x y) (loadCells a n) R (loadCells a' n):=zvN n 0 h bL.empty
def xX (S:aN->Prop)(K R:Pr)(xs bV:List aF):Prop:=xs.length=bV.length/\∀(i:Nat) (v v':aF),xs[i]? =some v->bV[i]? =some v'->VR S K R v v'
theorem bL.toList {xs bV:Array aF}(h:bL S K R xs bV):xX S K R xs.toList bV.toList:=⟨by simpa using h.1,λi v v' h1 h2=>h.2 i v v' Vq V9⟩
variable {xs bV:List aF}
def xX.mono {R':Pr}(hR:R.le R')(h:xX S K R xs bV):xX S K R' xs bV:=⟨h.1,λi v v' h1 h2=>(h.2 i v v' h1 h2).mono hR⟩
theorem xX.cons {x x':aF}(h:xX S K R (x::xs) (x'::bV)):VR S K R x x'/\xX S K R xs bV:=
 ⟨h.2 0 x x' rfl rfl,by simpa using h.1,λi v v' h1 h2=>h.2 (i+1) v v' Vq V9⟩
theorem Ws :∀(vs zgg:List aF) (i:Nat) {R:Pr},fL R a a'->xX S K R vs zgg->aG P S K lH (storeCells a vs i) R (storeCells a' zgg i)
 |[],[],i,R,h,hv=>aG.ret rfl
 |[],_::_,i,R,h,hv=>by have:=hv.1;simp at this
 |_::_,[],i,R,h,hv=>by have:=hv.1;simp at this
 |v::vs,v'::zgg,i,R,h,hv=>by
  unfold storeCells;obtain⟨h1,h2⟩:=hv.cons;refine aG.bnd (zDL (h.add i) h1) ?_;intro R' hR _ _ _;exact Ws vs zgg (i+1) (h.mono hR.le) (h2.mono hR.le)
theorem zra (t:aM)(h:fL R a a'):aG P S K (VA S K) (loadVar t a) R (loadVar t a'):=by
 unfold loadVar;refine aG.bnd (zop t) ?_;rintro R1 h1 b _ rfl
 cases b with
 |true=>
  simp only[if_true];refine aG.bnd (Ba t) ?_;rintro R2 h2 n _ rfl;refine aG.bnd (zjR ((h.mono h1.le).mono h2.le) n) ?_;intro R3 h3 x y zGt;exact aG.ret (VR.agg' zGt)
 |false=>simpa using zqI (h.mono h1.le)
theorem zDB (t:aM)(h:fL R a a')(hv:VR S K R v v'):aG P S K lH (storeVar t a v) R (storeVar t a' v'):=by
 unfold storeVar;refine aG.bnd (Ba t) ?_;rintro R1 h1 n _ rfl;have hc:=hv.cells;rw[<-hc.1];split
 .exact .inl (bM.bnd _)
 .exact Ws _ _ 0 (h.mono h1.le) ((hc.mono h1.le).toList)
variable {c c':Array aF}
theorem zal (e:aM)(h:bL S K R c c'):aG P S K (λR a b=>fL R a b) (newRow e c) R (newRow e c'):=by
 unfold newRow;refine aG.bnd (zeL (.cells h λo ho=>ho)) ?_;intro R1 h1 n n' hn;exact aG.ret (.mk hn)
def zqw (t:aM)(h:VR S K R v v'):aG P S K (λR a b=>fL R a b) (newVar t v) R (newVar t v'):=zal t h.cells
theorem zjp (t:aM)(h:bL S K R c c')(off:Nat):aG P S K (VA S K) (part t c off) R (part t c' off):=by
 unfold part;refine aG.bnd (zop t) ?_;rintro R1 h1 b _ rfl
 cases b with
 |true=>
  simp only[if_true];refine aG.bnd (Ba t) ?_;rintro R2 h2 n _ rfl;exact aG.ret (VR.agg' (((h.mono h1.le).mono h2.le).extract _ _))
 |false=>
  simp only[gK,if_false]
  cases hc:c[off]? with
  |none=>exact .inl bM
  |some v=>obtain⟨v',Oc,vX⟩:=(h.mono h1.le).get hc;rw[Oc];exact aG.ret vX
end
section
variable {P:dB}{S:aN->Prop}{K:Pr}{α β γ δ:Type}{R:Pr}
theorem zG7 (hz:Iv P S)(e:aM):aG P S K (VA S K) (zkJ e true (.tuple #[])) R (zkJ e true (.tuple #[])):=by
 unfold zkJ;refine aG.bnd (Pz hz e) ?_;intro R1 h1 z z' pY;refine aG.bnd (zqw e pY) ?_;intro R2 h2 a a' ha;exact aG.ret (.pointer (.some ha))
variable {v v':aF}
theorem sim_box (e:aM)(h:VR S K R v v'):aG P S K (VA S K) (zjw e v) R (zjw e v'):=by
 unfold zjw;refine aG.bnd (zqw e h) ?_;intro R2 h2 a a' ha;exact aG.ret (.pointer (.some ha))
theorem zHr (t:aM)(h:VR S K R v v'):aG P S K (VA S K) (zlP t v) R (zlP t v'):=by
 unfold zlP;refine aG.bnd (zas h) ?_;intro R1 h1 a a' ha;exact zra t ha
theorem zzI (t:aM){a a':aF}(h:VR S K R a a')(hv:VR S K R v v'):aG P S K lH (zkj t a v) R (zkj t a' v'):=by
 unfold zkj;refine aG.bnd (zas h) ?_;intro R1 h1 a a' ha;exact zDB t ha (hv.mono h1.le)
theorem zxj {r r':Nat}(h:R r r'):aG P S K (λ_ a b=>a=none/\b=none) (viewAt r) R (viewAt r'):=by
 unfold viewAt;refine aG.bnd (za0 h) ?_;rintro R1 h1 x _ rfl
 cases x with
 |some x=>exact aG.ret ⟨rfl,rfl⟩
 |none=>
  refine aG.bnd (Ul (h1.le _ _ h)) ?_;intro R2 h2 o o' ho;cases ho<;>exact aG.ret ⟨rfl,rfl⟩
variable {a a':bD}
theorem zGM (h:fL R a a'):aG P S K lH (noView a) R (noView a'):=by
 cases h with
 |mk h=>
  unfold noView;refine aG.bnd (zxj h) ?_;rintro R1 h1 _ _ ⟨rfl,rfl⟩;exact aG.ret rfl
theorem Sc (h:fL R a a'):aG P S K lH (byteOf a) R (byteOf a'):=by
 have h0:=h
 cases h with
 |mk h=>
  rename_i b b' o sp;unfold byteOf
  cases sp with
  |some s=>exact aG.ret rfl
  |none=>
   refine aG.bnd Ql ?_;rintro R1 h1 p q ⟨rfl,rfl⟩;refine aG.bnd (zGM (h0.mono h1.le)) ?_;rintro R2 h2 _ _ _;refine aG.bnd (za0 (h2.le _ _ (h1.le _ _ h))) ?_;rintro R3 h3 x _ rfl
   cases x with
   |none=>exact .inl bM
   |some x=>
    obtain⟨e,n⟩:=x;simp only[P.cells_g,P.bytes_g,P.depth_g,P.byteOfCell_g];split
    .exact aG.ret rfl
    .split
     .exact aG.ret rfl
     .exact .inl bM
theorem zCo (h:fL R a a')(c b:Nat):aG P S K (λR a b=>fL R a b) (partAt a c b) R (partAt a' c b):=by
 unfold partAt;refine aG.bnd (Sc h) ?_;rintro R1 h1 n _ rfl;have h':=h.mono h1.le
 cases h' with
 |mk h'=>
  refine aG.bnd (Sc (.mk h')) ?_;rintro R2 h2 m _ rfl;split<;>exact aG.ret (.mk (h2.le _ _ h'))
theorem zG1 (h:fL R a a')(f:Field):aG P S K (λR a b=>fL R a b) (fieldPlace a f) R (fieldPlace a' f):=by
 unfold fieldPlace;refine aG.bnd (Ba f.type) ?_;rintro R1 h1 n _ rfl;split
 .exact zCo (h.mono h1.le) _ _
 .exact aG.ret ((h.mono h1.le).add _)
theorem zBd (s:aM)(h:VR S K R v v')(f:Nat):aG P S K (VA S K) (zij s v f) R (zij s v' f):=by
 unfold zij;refine aG.bnd (mK s) ?_;rintro R1 h1 d _ ⟨rfl,hd⟩
 cases d with
 |struct fields=>
  simp only
  cases hf:fields[f]? with
  |none=>exact .inl bM
  |some fl=>
   refine aG.bnd (zas (h.mono h1.le)) ?_;intro R2 h2 a a' ha;refine aG.bnd (zG1 ha fl) ?_;intro R3 h3 b b' hb;exact aG.ret (.pointer (.some hb))
 |_=>exact .inl bM
def zlZ (t:aM)(k:Cm)(i:Int)(b:Option bD)(len:Nat)(elem:aM):cP Value:=do
 let tiny:=len<=1&&(match<-underlying t with| .array .. =>true|_=>false)
 match b with
 |some a=>
  if 0<=i/\i<len then pure (.pointer (some (a.add (i.toNat*(<-sizeOf elem)))))
  else if tiny then unsupported (.noEntry "op/indexAddr.an index out of range at an array of length 0 or 1 (ledger 616)")
  else boundsPanic k i len .index
 |none=>boundsPanic k i 0 .index
theorem zqO (t:aM)(k:Cm)(i:Int){b b':Option bD}(h:xP R b b')(len:Nat)(elem:aM):aG P S K (VA S K) (zlZ t k i b len elem) R (zlZ t k i b' len elem):=by
 unfold zlZ;refine aG.bnd (mK t) ?_;rintro R3 h3 d _ ⟨rfl,hd⟩;have bZ:=h.mono h3.le
 cases bZ with
 |none=>exact .inl Zq
 |some ha=>
  simp only;split
  .refine aG.bnd (Ba elem) ?_
   rintro R4 h4 sz _ rfl;exact aG.ret (.pointer (.some ((ha.mono h4.le).add _)))
  .refine .inl ?_
   split<;>first|exact jN|exact Zq|(split<;>first|exact jN|exact Zq)
theorem zC2 (t:aM){i i':aF}(h:VR S K R v v')(hi:VR S K R i i'):aG P S K (VA S K) (znn t v i) R (znn t v' i'):=by
 unfold znn;refine aG.bnd (zec hi) ?_;rintro R1 h1 ⟨k,n⟩ _ rfl;refine aG.bnd (mK t) ?_;rintro R2 h2 d _ ⟨rfl,hd⟩;have hv:=(h.mono h1.le).mono h2.le
 cases d with
 |array len elem=>
  refine aG.bnd (zas hv) ?_;intro R3 h3 a a' ha;exact zqO t k n (.some ha) len elem
 |slice elem=>
  cases hv with
  |slice ho=>exact zqO t k n ho _ elem
  |_=>exact .inl (bM.bnd _)
 |_=>exact .inl (bM.bnd _)
theorem zHS (t:aM){i i':aF}(h:VR S K R v v')(hi:VR S K R i i'):aG P S K (VA S K) (zkC t v i) R (zkC t v' i'):=by
 unfold zkC;refine aG.bnd (zec hi) ?_;rintro R1 h1 ⟨k,n⟩ _ rfl;refine aG.bnd (mK t) ?_;rintro R2 h2 d _ ⟨rfl,hd⟩;have hv:=(h.mono h1.le).mono h2.le
 cases d with
 |array len elem=>
  cases hv with
  |agg e hc=>
   simp only;split
   .refine aG.bnd (Ba elem) ?_
    rintro R3 h3 sz _ rfl;exact zjp elem (bL.mono h3.le ⟨e,hc⟩) _
   .exact .inl Zq
  |_=>exact .inl bM
 |string=>
  cases hv with
  |string s=>
   simp only;split
   .exact aG.ret (.int _ _)
   .exact .inl Zq
  |_=>exact .inl bM
 |_=>exact .inl bM
theorem zaS (h:VR S K R v v')(y:Nat)(c:zmq):aG P S K lH (L0 v y c) R (L0 v' y c):=by
 unfold L0;refine aG.bnd (zec h) ?_;rintro R1 h1 ⟨k,n⟩ _ rfl;simp only;split
 .exact aG.ret rfl
 .exact .inl Zq
inductive Ae (S:aN->Prop)(K R:Pr):Option aF->Option aF->Prop
 |none:Ae S K R none none
 |some {v v':aF}:VR S K R v v'->Ae S K R (some v) (some v')
theorem Ae.mono {R':Pr}(h:R.le R'){v v':Option aF}(x:Ae S K R v v'):Ae S K R' v v':=by cases x with|none=>exact .none|some x=>exact .some (x.mono h)
variable {Bq mJ Zl:Option aF}
theorem zdC (b:Bool)(len cap:Nat){lo hi mx:Option aF}(hl:Ae S K R lo Bq)(hh:Ae S K R hi mJ)(hm:Ae S K R mx Zl):
 aG P S K lH (Y4 b len cap lo hi mx) R (Y4 b len cap Bq mJ Zl):=by
 have nd:∀{R1:Pr},wZ P K R R1->∀(m h:Nat) (c:zmq),aG P S K (lH (α:=Nat×Nat×Nat)) (match lo with|some v=>(do let l<-L0 v h c;pure (l,h,m))|none=>pure (0,h,m)) R1 (match Bq with|some v=>(do let l<-L0 v h c;pure (l,h,m))|none=>pure (0,h,m)):=by
  intro R1 h1 m h c
  cases hl with
  |none=>exact aG.ret rfl
  |some z=>
   refine aG.bnd (zaS (z.mono h1.le) h c) ?_;rintro R2 h2 l _ rfl;exact aG.ret rfl
 unfold Y4
 cases hm with
 |none=>
  cases hh with
  |none=>cases hl with
   |none=>exact aG.ret rfl
   |some z=>exact nd (wZ.refl R) cap len (if(none:Option aF).isSome then .slice3C else .sliceB)
  |some x=>
   refine aG.bind (α:=Nat) (A:=lH) (s:=L0 _ cap (if b then .sliceAcap else .sliceAlen)) (s':=L0 _ cap (if b then .sliceAcap else .sliceAlen)) (zaS x _ _) ?_;rintro R2 h2 h _ rfl
   cases hl with
   |none=>exact aG.ret rfl
   |some z=>simp_all
 |some y=>
  refine aG.bnd (zaS y _ _) ?_;rintro R1 h1 m _ rfl
  cases hh with
  |none=>exact .inl (bM.bnd _)
  |some x=>
   refine aG.bnd (zaS (x.mono h1.le) _ _) ?_;rintro R2 h2 h _ rfl
   cases hl with
   |none=>exact aG.ret rfl
   |some z=>
    refine aG.bnd (zaS ((z.mono h1.le).mono h2.le) _ _) ?_;rintro R3 h3 l _ rfl;exact aG.ret rfl
theorem zyN (t:aM){lo hi mx:Option aF}(h:VR S K R v v')(hl:Ae S K R lo Bq)(hh:Ae S K R hi mJ)(hm:Ae S K R mx Zl):
 aG P S K (VA S K) (V4 t v lo hi mx) R (V4 t v' Bq mJ Zl):=by
 unfold V4;refine aG.bnd (mK t) ?_;rintro R1 h1 d _ ⟨rfl,hd⟩;have hv:=h.mono h1.le
 cases d with
 |string=>
  cases hv with
  |string s=>
   simp only
   cases hm with
   |some y=>exact .inl (bM.bnd _)
   |none=>
    refine aG.bnd (zdC _ _ _ (hl.mono h1.le) (hh.mono h1.le) .none) ?_;rintro R2 h2 ⟨l,h,m⟩ _ rfl;exact aG.ret (.string _)
  |_=>exact .inl bM
 |slice elem=>
  cases hv with
  |slice ho=>
   refine aG.bnd (zdC _ _ _ (hl.mono h1.le) (hh.mono h1.le) (hm.mono h1.le)) ?_;rintro R2 h2 ⟨l,h,m⟩ _ rfl;refine aG.bnd (Ba elem) ?_;rintro R3 h3 sz _ rfl;refine aG.ret (.slice ?_);split
   .exact(ho.mono h2.le).mono h3.le
   .exact((ho.mono h2.le).mono h3.le).map _
  |_=>exact .inl bM
 |pointer arr=>
  refine aG.bnd (zp5 hv) ?_;intro R2 h2 a a' ha;refine aG.bnd (mK arr) ?_;rintro R3 h3 d _ ⟨rfl,hd⟩
  cases d with
  |array n elem=>
   refine aG.bnd (zdC _ _ _ (((hl.mono h1.le).mono h2.le).mono h3.le) (((hh.mono h1.le).mono h2.le).mono h3.le) (((hm.mono h1.le).mono h2.le).mono h3.le)) ?_;rintro R4 h4 ⟨l,h,m⟩ _ rfl;refine aG.bnd (Ba elem) ?_;rintro R5 h5 sz _ rfl;refine aG.ret (.slice (.some ?_));have fU:=((ha.mono h3.le).mono h4.le).mono h5.le;split
   .exact fU
   .exact fU.add _
  |_=>exact .inl bM
 |_=>exact .inl bM
theorem zDo (t:aM){lo hi mx:Option aF}(h:VR S K R v v')(hl:Ae S K R lo Bq)(hh:Ae S K R hi mJ)(hm:Ae S K R mx Zl):
 aG P S K (VA S K) (X9 t v lo hi mx) R (X9 t v' Bq mJ Zl):=by
 unfold X9;refine aG.bnd (mK t) ?_;rintro R1 h1 d _ ⟨rfl,hd⟩
 cases d with
 |array n elem=>
  refine aG.bnd (zas (h.mono h1.le)) ?_;intro R2 h2 a a' ha;refine aG.bnd (zdC _ _ _ ((hl.mono h1.le).mono h2.le) ((hh.mono h1.le).mono h2.le) ((hm.mono h1.le).mono h2.le)) ?_;rintro R4 h4 ⟨l,h,m⟩ _ rfl;refine aG.bnd (Ba elem) ?_;rintro R5 h5 sz _ rfl;refine aG.ret (.slice (.some ?_));have fU:=(ha.mono h4.le).mono h5.le;split
  .exact fU
  .exact fU.add _
 |_=>exact zyN t (h.mono h1.le) (hl.mono h1.le) (hh.mono h1.le) (hm.mono h1.le)
theorem zBn (h:VR S K R v v')(i:Nat):aG P S K (VA S K) (ziu v i) R (ziu v' i):=by
 unfold ziu
 cases h with
 |tuple e hc=>
  rename_i xs bV;simp only
  cases hq:xs[i]? with
  |none=>exact .inl bM
  |some u=>
   obtain⟨u',Ml,zde⟩:=bL.get ⟨e,hc⟩ hq;rw[Ml];exact aG.ret zde
 |_=>exact .inl bM
theorem zDe (t:aM){r r':Option aF}(h:Ae S K R r r'):aG P S K (VA S K) (zjh t r) R (zjh t r'):=by
 have fin:∀{R1:Pr},aG P S K (VA S K) (do pure (.map (some (<-newObj (.map #[] 0))))) R1 (do pure (.map (some (<-newObj (.map #[] 0))))):=by
  intro R1;refine aG.bnd (zeL (.map ⟨rfl,λi e e' h=>by simp at h⟩)) ?_;intro R2 h2 n n' hn;exact aG.ret (.map (.some hn))
 unfold zjh
 cases h with
 |none=>exact fin
 |some x=>
  refine aG.bnd (mK t) ?_;rintro R1 h1 d _ ⟨rfl,hd⟩
  cases d with
  |map k e=>
   refine aG.bnd (Zi (x.mono h1.le)) ?_;simp_all
  |_=>exact .inl (bM.bnd _)
theorem zDk (t:aM)(h:VR S K R v v'):aG P S K (VA S K) (zja t v) R (zja t v'):=by
 unfold zja;refine aG.bnd (Zi h) ?_;rintro R1 h1 n _ rfl;refine aG.bnd (mK t) ?_;rintro R2 h2 d _ ⟨rfl,hd⟩
 cases d with
 |chan dir elem=>
  refine aG.bnd (Gl elem) ?_;rintro R3 h3 inf _ ⟨rfl,hi⟩;simp only;split
  .exact .inl (vR.bnd _)
  .refine aG.bnd (zeL (.chan bL.empty)) ?_
   intro R4 h4 n n' hn;exact aG.ret (.chan (.some (.inl hn)))
 |_=>exact .inl bM
end
section
variable {P:dB}{S:aN->Prop}{K:Pr}{α β γ δ:Type}{R:Pr}
theorem Fy.eq_iff {R:Pr}(inj:∀a b c,R a b->R a c->b=c)(inj':∀a b c,R a c->R b c->a=b){a a' b b':Option Nat}(h:Fy R a a')(h':Fy R b b'):(a==b)=(a'==b'):=by
 cases h with
 |none=>cases h' with
  |none=>rfl
  |some y=>rfl
 |some x=>cases h' with
  |none=>rfl
  |some y=>grind
variable {r r':Nat}
theorem zjB (h:R r r'):aG P S K (λR a b=>(a=none/\b=none)\/∃x x' l,a=some (x,l)/\b=some (x',l)/\fL R x x') (numberAt r) R (numberAt r'):=by
 unfold numberAt;refine aG.bnd (za0 h) ?_;rintro R1 h1 x _ rfl
 cases x with
 |some x=>exact aG.ret (.inl ⟨rfl,rfl⟩)
 |none=>
  refine aG.bnd (Ul (h1.le _ _ h)) ?_;intro R2 h2 o o' ho
  cases ho with
  |number ha=>exact aG.ret (.inr ⟨_,_,_,rfl,rfl,ha⟩)
  |_=>exact aG.ret (.inl ⟨rfl,rfl⟩)
variable {a a':bD}
theorem zob (h:fL R a a'):aG P S K (λR x y=>fL R x.1 y.1) (behindNumber a) R (behindNumber a'):=by
 have h0:=h
 cases h with
 |mk h=>
  unfold behindNumber;refine aG.bnd (zjB h) ?_;rintro R1 h1 x y (⟨rfl,rfl⟩|⟨p,p',l,rfl,rfl,hp⟩)
  .exact aG.ret (h0.mono h1.le)
  .exact aG.ret hp
def zaq:Oh->Bool
 | .bool| .int _| .string| .chan .. =>true
 |_=>false
theorem fL.block_eq (hR:qJ P K R){b b':bD}(h:fL R a a')(h':fL R b b'):(a.block==b.block)=(a'.block==b'.block):=by
 cases h with
 |mk x=>
  cases h' with
  |mk y=>
   rw[Mx];simp only[beq_iff_eq];exact⟨λe=>hR.inj _ _ _ (.inl (e▸x)) (.inl y),λe=>hR.inj' _ _ _ (.inl (e▸x)) (.inl y)⟩
def zDQ (h:R r r'):aG P S K (λR' a b=>R'=R/\a=b) (shape r) R (shape r'):=.inr ⟨r',_,rfl,h,λx=>.inr ⟨x,rfl,rfl,rfl⟩⟩
def zE2 (h:R r r'):aG P S K (λR' o o'=>R'=R/\oK S K R o o') (getObj r) R (getObj r'):=.inr ⟨r',_,rfl,.inl h,λo o' ho=>.inr ⟨o',rfl,rfl,ho⟩⟩
def zmC:aG P S K (λR' a b=>R'=R/\a=P.g/\b=P.c) program R program:=.inr ⟨_,rfl,.inr ⟨P.c,rfl,rfl,rfl,rfl⟩⟩
theorem zDc (h:R r r'):aG P S K (λR' a b=>R'=R/\((a=none/\b=none)\/∃x x' l,a=some (x,l)/\b=some (x',l)/\fL R x x')) (numberAt r) R (numberAt r'):=by
 unfold numberAt;refine aG.bnd (zDQ h) ?_;rintro R1 _ x _ ⟨rfl,rfl⟩
 cases x with
 |some x=>exact aG.ret ⟨rfl,.inl ⟨rfl,rfl⟩⟩
 |none=>
  refine aG.bnd (zE2 h) ?_;rintro R2 _ o o' ⟨rfl,ho⟩
  cases ho with
  |number ha=>exact aG.ret ⟨rfl,.inr ⟨_,_,_,rfl,rfl,ha⟩⟩
  |_=>exact aG.ret ⟨rfl,.inl ⟨rfl,rfl⟩⟩
theorem zhA (h:fL R a a'):aG P S K (λR' x y=>R'=R/\fL R x.1 y.1) (behindNumber a) R (behindNumber a'):=by
 have h0:=h
 cases h with
 |mk h=>
  unfold behindNumber;refine aG.bnd (zDc h) ?_;rintro R1 _ x y ⟨rfl,⟨rfl,rfl⟩|⟨p,p',l,rfl,rfl,hp⟩⟩
  .exact aG.ret ⟨rfl,h0⟩
  .exact aG.ret ⟨rfl,hp⟩
theorem fL.low (hR:qJ P K R)(h:fL R a a'):decide (a.block<P.globals.size)=decide (a'.block<P.globals.size):=by
 cases h with
 |mk x=>exact decide_eq_decide.2 (hR.low _ _ x)
def zlh (P:dB)(t:aM):Prop:=∀i x,P.info? t=some i->i.desc≠ .named "sync.copyChecker" x
theorem zB2 {t:aM}(hc:zlh P t)(hR:qJ P K R){b b':bD}(ha:fL R a a')(hb:fL R b b'):
 aG P S K lH (do
  let(a,b):=((<-behindNumber a).1,(<-behindNumber b).1)
  if a.block==b.block&&a.block<(<-program).globals.size then return (<-byteOf a)==(<-byteOf b)
  let .named "sync.copyChecker" _:=(<-typeInfo t).desc|unsupported .addressObserved
  if a==b then pure true else unsupported .addressObserved) R (do
  let(a,b):=((<-behindNumber a').1,(<-behindNumber b').1)
  if a.block==b.block&&a.block<(<-program).globals.size then return (<-byteOf a)==(<-byteOf b)
  let .named "sync.copyChecker" _:=(<-typeInfo t).desc|unsupported .addressObserved
  if a==b then pure true else unsupported .addressObserved):=by
 refine aG.bnd (zhA ha) ?_;rintro R1 _ x y ⟨rfl,hx⟩;refine aG.bnd (zhA hb) ?_;rintro R2 _ u v ⟨rfl,hu⟩;refine aG.bnd zmC ?_;rintro R3 _ p q ⟨rfl,rfl,rfl⟩;rw[<-fL.block_eq hR hx hu,P.globals_g,<-fL.low hR hx];split
 .refine aG.bnd (Sc hx) ?_
  rintro R4 h4 m _ rfl;refine aG.bnd (Sc (hu.mono h4.le)) ?_;rintro R5 h5 m' _ rfl;exact aG.ret rfl
 .refine aG.bnd (Gl t) ?_
  rintro R4 h4 i _ ⟨rfl,hi⟩;refine .inl ?_;split
  .next e=>exact absurd e (hc i _ hi)
  .exact jN
theorem zwn (n:Nat)(t:aM)(d:Oh)(hd:P.underlying t=some d)(ok:zaq d=true)(hc:∀k,d=.int k->zlh P t)(hR:qJ P K R){x x' y y':aF}(hx:VR S K R x x')(hy:VR S K R y y'):
 aG P S K lH (tD (n+1) t x y) R (tD (n+1) t x' y'):=by
 unfold tD;refine aG.bnd (A:=λR' a b=>R'=R/\a=b/\P.underlying t=some a) (by
  unfold underlying;refine aG.bnd zmC ?_;rintro R' _ a b ⟨rfl,ha,hb⟩;rw[ha,hb,P.underlying_g]
  cases h:P.c.underlying t with
  |some d=>exact aG.ret ⟨rfl,rfl,h⟩
  |none=>exact .inl bM) ?_
 rintro R1 _ d' _ ⟨rfl,rfl,If⟩;obtain rfl:d'=d:=by simp_all
 cases d' with
 |bool=>
  cases hx with
  |bool a=>cases hy with
   |bool b=>exact aG.ret rfl
   |_=>exact .inl bM
  |_=>first|exact .inl bM|(cases hy<;>exact .inl bM)
 |string=>
  cases hx with
  |string a=>cases hy with
   |string b=>exact aG.ret rfl
   |_=>exact .inl bM
  |_=>first|exact .inl bM|(cases hy<;>exact .inl bM)
 |chan dir el=>
  cases hx with
  |chan a=>cases hy with
   |chan b=>exact aG.ret (Fy.eq_iff hR.inj hR.inj' a b)
   |_=>exact .inl bM
  |_=>first|exact .inl bM|(cases hy<;>exact .inl bM)
 |int ik=>
  cases hx with
  |int k a=>cases hy with
   |int k' b=>
    simp only;split
    .exact aG.ret rfl
    .exact .inl bM
   |pointer q=>
    cases q with
    |none=>exact .inl zks
    |some q=>
     by_cases h0:a=0
     .subst h0;exact aG.ret rfl
     .refine .inl ?_
      split<;>first|exact jN|exact bM|(exfalso;simp_all;done)
   |_=>exact .inl zin
  |pointer p=>cases p with
   |none=>cases hy<;>first|exact .inl jN|exact .inl bM
   |some p=>
    cases hy with
    |int k' b=>
     by_cases h0:b=0
     .subst h0;exact aG.ret rfl
     .refine .inl ?_
      split<;>first|exact jN|exact bM|(exfalso;simp_all;done)
    |pointer q=>
     cases q with
     |none=>exact .inl zks
     |some q=>exact zB2 (hc ik rfl) hR p q
    |_=>exact .inl zks
  |_=>cases hy<;>first|exact .inl bM|exact .inl jN
 |_=>cases ok
end
section
variable {P:dB}{S:aN->Prop}{K:Pr}{α β γ δ:Type}{R:Pr}
def Ku (S:aN->Prop)(K R:Pr)(es eY:List oV):Prop:=es.length=eY.length/\∀(i:Nat) (e e':oV),es[i]? =some e->eY[i]? =some e'->Cb S K R e e'
variable {es eY:Array oV}
theorem rA.toList (h:rA S K R es eY):Ku S K R es.toList eY.toList:=⟨by simpa using h.1,λi e e' h1 h2=>h.2 i e e' Vq V9⟩
variable {e e':oV}
theorem Ku.cons {es eY:List oV}(h:Ku S K R (e::es) (e'::eY)):Cb S K R e e'/\Ku S K R es eY:=
 ⟨h.2 0 e e' rfl rfl,by simpa using h.1,λi a b h1 h2=>h.2 (i+1) a b Vq V9⟩
def Ku.mono {R':Pr}(hR:R.le R'){es eY:List oV}(h:Ku S K R es eY):Ku S K R' es eY:=⟨h.1,λi e e' h1 h2=>(h.2 i e e' h1 h2).mono hR⟩
theorem xP.eq_iff (hR:qJ P K R){a a' b b':Option bD}(h:xP R a a')(h':xP R b b'):(a==b)=(a'==b'):=by
 cases h with
 |none=>cases h' with
  |none=>rfl
  |some y=>rfl
 |some x=>cases h' with
  |none=>rfl
  |some y=>
   cases x with
   |mk x=>
    cases y with
    |mk y=>
     rw[Mx];simp only[beq_iff_eq,jM,bD.mk.injEq];exact⟨λe=>⟨hR.inj _ _ _ (.inl (e.1▸x)) (.inl y),e.2⟩,λe=>⟨hR.inj' _ _ _ (.inl (e.1▸x)) (.inl y),e.2⟩⟩
def Flat:aF->Prop
 | .tuple _| .agg _| .iface _ _| .nilFunc=>False
 |_=>True
variable {x x' y:aF}
theorem zGq (hR:qJ P K R)(n:Nat){y':aF}(fx:Flat x)(fy:Flat y)(hx:VR S K R x x')(hy:VR S K R y y'):zbQ n x y=zbQ n x' y':=by
 cases n<;>(
  cases hx with
  |pointer h1=>cases hy with
   |pointer h2=>exact xP.eq_iff hR h1 h2
   |junk h=>exact fy.elim
   |_=>rfl
  |chan h1=>cases hy with
   |chan h2=>exact Fy.eq_iff hR.inj hR.inj' h1 h2
   |junk h=>exact fy.elim
   |_=>rfl
  |junk h=>exact fx.elim
  |iface h1=>exact fx.elim
  |agg h1=>exact fx.elim
  |tuple h1=>exact fx.elim
  |_=>cases hy<;>first|rfl|exact fy.elim)
variable {t:aM}{d:Oh}
theorem zmT (hd:P.underlying t=some d)(ok:zaq d=true)(h:¬(Flat x/\Flat y)):eH P (vJ t x y):=by
 have e:vJ t x y=tD (9999+1) t x y:=rfl;rw[e];unfold tD;have hu:∀w,(underlying t).run P.g w=.ok d w:=λw=>by
  have:P.g.underlying t=some d:=hd;simp[underlying,program,bK,bind,cP.bind,pure,this]
 have key:∀{f:Oh->cP Bool},eH P (f d)->eH P (underlying t>>=f):=λ{f} hf w hw=>by
  obtain⟨h1,w1,h2,h3⟩:=hf w hw;refine⟨h1,w1,?_,h3⟩;have:=tP P.g (underlying t) f w;rw[hu] at this;exact this.trans h2
 refine key ?_;cases d<;>first|(cases ok;done)|skip
 all_goals(cases x<;>cases y<;>first
  |exact(h ⟨True.intro,True.intro⟩).elim
  |exact bM
  |exact jN
  |(split<;>first|exact bM|exact jN|(simp_all;done)))
theorem zEx {b:Bool}(h:wM d x y=some b):Flat x/\Flat y:=by
 cases x<;>cases d<;>first|(simp[wM] at h;done)|(cases y<;>first|exact⟨trivial,trivial⟩|(simp[wM] at h;done))
variable {k k':aF}
theorem zA9 (d:Oh){e e':aF}(f1:Flat k)(f2:Flat e)(hk:VR S K R k k')(he:VR S K R e e'):wM d k e=wM d k' e':=by
 cases hk with
 |junk _=>exact f1.elim
 |int i n=>cases he with
  |int i n=>rfl
  |junk _=>exact f2.elim
  |_=>cases d<;>rfl
 |string s=>cases he with
  |string s=>rfl
  |junk _=>exact f2.elim
  |_=>cases d<;>rfl
 |bool s=>cases he with
  |bool s=>rfl
  |junk _=>exact f2.elim
  |_=>cases d<;>rfl
 |_=>cases d<;>rfl
inductive OfR (S:aN->Prop)(K R:Pr)(F:Nat->Prop):Option (Nat×aF)->Option (Nat×aF)->Prop
 |none:OfR S K R F none none
 |some {i:Nat} {v v':aF}:VR S K R v v'->F i->OfR S K R F (some (i,v)) (some (i,v'))
structure J9 (P:dB)(t:aM):Prop where
 ex:∃d,P.underlying t=some d/\zaq d=true
 nc:∀k,P.underlying t=some (.int k)->zlh P t
theorem zmg (ht:J9 P t)(hR:qJ P K R){y':aF}(hx:VR S K R x x')(hy:VR S K R y y'):aG P S K lH (vJ t x y) R (vJ t x' y'):=by
 obtain⟨d,hd,ok⟩:=ht.ex;have e:∀a b,vJ t a b=tD (9999+1) t a b:=λa b=>rfl;rw[e,e];exact zwn 9999 t d hd ok (λk e=>ht.nc k (e▸hd)) hR hx hy
theorem zGn (hd:P.underlying t=some d)(h:wM d x y=some false)(w:aE):(vJ t x y).run P.g w=.ok false w:=by
 have e:vJ t x y=tD (9999+1) t x y:=rfl;have hg:P.g.underlying t=some d:=hd;have hu:(underlying t).run P.g w=.ok d w:=by simp[underlying,program,bK,bind,cP.bind,pure,hg]
 rw[e];unfold tD;refine(tP P.g (underlying t) _ w).trans ?_;rw[hu]
 cases x with
 |bool a=>
  cases d with
  |bool=>
   cases y with
   |bool b=>
    have h':(a==b)=false:=by simpa[wM] using h
    show bK P.g (pure (a==b)) w=_;rw[h'];rfl
   |_=>simp[wM] at h
  |_=>simp[wM] at h
 |string a=>
  cases d with
  |string=>
   cases y with
   |string b=>
    have h':(a==b)=false:=by simpa[wM] using h
    show bK P.g (pure (a==b)) w=_;rw[h'];rfl
   |_=>simp[wM] at h
  |_=>simp[wM] at h
 |int k a=>
  cases d with
  |int dk=>
   cases y with
   |int k' b=>
    simp only[wM] at h;split at h
    .next hk=>
     have h':(a==b)=false:=by simpa using h
     show bK P.g (if k=k' then pure (a==b) else stuck "==: kinds differ") w=_;rw[if_pos hk,h'];rfl
    .cases h
   |_=>simp[wM] at h
  |_=>simp[wM] at h
 |_=>cases d<;>simp[wM] at h
theorem zqD (hd:P.underlying t=some d)(ok:zaq d=true)(hk:VR S K R k k'){F:Nat->Prop}:∀(es eY:List oV) (i:Nat),Ku S K R es eY->(∀j e,es[j]? =some e->Flat k->Flat e.key->F (i+j))->
 (Hb d k es i=none/\eH P (Ka t k es i))\/(Hb d k es i=none/\Hb d k' eY i=none)\/∃r r',Hb d k es i=some r/\Hb d k' eY i=some r'/\OfR S K R F r r'
 |[],[],i,h,_=>.inr (.inr ⟨_,_,rfl,rfl,.none⟩)
 |[],_::_,i,h,_=>by have:=h.1;simp at this
 |_::_,[],i,h,_=>by have:=h.1;simp at this
 |e::es,e'::eY,i,h,hF=>by
  obtain⟨h1,h2⟩:=h.cons
  cases h1 with
  |mk qU hv=>
   rename_i ek ek' ev ev' born;by_cases hf:Flat k/\Flat ek
   .unfold Hb
    simp only[<-zA9 d hf.1 hf.2 hk qU]
    cases hs:wM d k ek with
    |none=>simp_all
    |some b=>cases b with
     |true=>exact .inr (.inr ⟨_,_,rfl,rfl,.some hv zq9⟩)
     |false=>
      rcases zqD hd ok hk es eY (i+1) h2 (λj e he a b=>by have:=hF (j+1) e (by simpa using he) a b;rwa [show i+1+j=i+(j+1) by omega]) with⟨hq,hn⟩|hr
      .refine .inl ⟨hq,λw hw=>?_⟩
       obtain⟨hh,w1,q1,q2⟩:=hn w hw;refine⟨hh,w1,?_,q2⟩;unfold Ka;refine(tP P.g _ _ w).trans ?_;rw[zGn hd hs w];exact q1
      .exact .inr hr
   .refine .inl ⟨?_,?_⟩
    .unfold Hb
     cases hs:wM d k ek with
     |none=>rfl
     |some b=>exact absurd (zEx hs) hf
    .unfold Ka
     exact(zmT hd ok hf).bnd _
theorem zvU (ht:J9 P t):∀(es eY:List oV) (i:Nat) {R:Pr} {k k':aF} {F:Nat->Prop},qJ P K R->VR S K R k k'->Ku S K R es eY->(∀j e,es[j]? =some e->Flat k->Flat e.key->F (i+j))->
 aG P S K (λR' a b=>OfR S K R' F a b) (Ka t k es i) R (Ka t k' eY i)
 |[],[],i,R,k,k',F,hR,hk,h,hF=>aG.ret .none
 |[],_::_,i,R,k,k',F,hR,hk,h,hF=>by have:=h.1;simp at this
 |_::_,[],i,R,k,k',F,hR,hk,h,hF=>by have:=h.1;simp at this
 |e::es,e'::eY,i,R,k,k',F,hR,hk,h,hF=>by
  obtain⟨h1,h2⟩:=h.cons
  cases h1 with
  |mk qU hv=>
   rename_i ek ek' ev ev' born;by_cases hf:Flat k/\Flat ek
   rotate_left
   .obtain⟨d,hd,ok⟩:=ht.ex
    refine .inl ?_;unfold Ka;exact(zmT hd ok hf).bnd _
   unfold Ka;refine aG.bnd (zmg ht hR hk qU) ?_;rintro R1 hx b _ rfl
   cases b with
   |true=>exact aG.ret (.some (hv.mono hx.le) zq9)
   |false=>exact zvU ht es eY (i+1) (hx.ok hR) (hk.mono hx.le) (h2.mono hx.le) (λj e he a b=>by have:=hF (j+1) e (by simpa using he) a b;rwa [show i+1+j=i+(j+1) by omega])
variable {i:Nat}
theorem rA.get (h:rA S K R es eY)(hi:es[i]? =some e):∃e',eY[i]? =some e'/\Cb S K R e e':=by
 have:i<eY.size:=by rw[<-h.1];exact(eE.1 hi).1
 exact⟨_,qA this,h.2 i e _ hi (qA this)⟩
theorem rA.none (h:rA S K R es eY)(hi:es[i]? =none):eY[i]? =none:=by
 rw[zxI] at hi⊢;rw[<-h.1];exact hi
theorem rA.modify (h:rA S K R es eY)(i:Nat){f f':oV->oV}(hf:∀e e',Cb S K R e e'->Cb S K R (f e) (f' e')):rA S K R (es.modify i f) (eY.modify i f'):=by
 refine⟨by simpa using h.1,λk e e' h1 h2=>?_⟩;rw[zpP] at h1 h2;split at h1
 .next e1=>
  rw[if_pos e1] at h2
  cases q:es[k]? with
  |none=>rw[q] at h1;cases h1
  |some u=>
   obtain⟨u',q',r⟩:=h.get q
   grind
 .next e1=>
  rw[if_neg e1] at h2;exact h.2 k e e' h1 h2
theorem rA.push (h:rA S K R es eY)(he:Cb S K R e e'):rA S K R (es.push e) (eY.push e'):=by
 refine⟨by simpa using h.1,λk a a' h1 h2=>?_⟩;rw[zlv] at h1 h2;rw[<-h.1] at h2;split at h1
 .simp_all
 .next e1=>
  rw[if_neg e1] at h2;exact h.2 k a a' h1 h2
theorem rA.erase (h:rA S K R es eY)(i:Nat):rA S K R (es.eraseIdxIfInBounds i) (eY.eraseIdxIfInBounds i):=by
 unfold Array.eraseIdxIfInBounds;split
 .next hi=>
  have mJ:i<eY.size:=h.1▸hi;rw[dif_pos mJ];refine⟨by simp[h.1],λk a a' h1 h2=>?_⟩;rw[Array.getElem?_eraseIdx] at h1 h2;split at h1
  .next e1=>rw[if_pos e1] at h2;exact h.2 _ _ _ h1 h2
  .next e1=>rw[if_neg e1] at h2;exact h.2 _ _ _ h1 h2
 .next hi=>
  have mJ:¬i<eY.size:=h.1▸hi
  grind
theorem zlm (ht:J9 P t)(hR:qJ P K R)(hk:VR S K R k k'){es eY:List oV}(he:Ku S K R es eY):
 aG P S K (λR' a b=>OfR S K R' (λi=>Flat k/\∀e,es[i]? =some e->Flat e.key) a b) (Ls t k es) R (Ls t k' eY):=by
 unfold Ls;refine aG.bnd (mK t) ?_;rintro R1 h1 d _ ⟨rfl,hd⟩;obtain⟨d',If,ok⟩:=ht.ex;obtain rfl:d'=d:=by simp_all
 have hF:∀j e,es[j]? =some e->Flat k->Flat e.key->Flat k/\∀e,es[0+j]? =some e->Flat e.key:=λj e he a b=>⟨a,λe2 zJB=>by simp_all⟩;rcases zqD (F:=λi=>Flat k/\∀e,es[i]? =some e->Flat e.key) hd ok (hk.mono h1.le) es eY 0 (he.mono h1.le) hF with⟨e1,hn⟩|⟨e1,e2⟩|⟨r,r',e1,e2,h⟩
 .rw[e1]
  exact .inl hn
 .rw[e1,e2]
  exact zvU ht es eY 0 (h1.ok hR) (hk.mono h1.le) (he.mono h1.le) hF
 .rw[e1,e2]
  exact aG.ret h
theorem zzS (n:Nat)(ht:J9 P t)(b:Bool)(k k':aF):aG P S K lH (G9 b (n+1) t k) R (G9 b (n+1) t k'):=by
 obtain⟨d,hd,ok⟩:=ht.ex;unfold G9;refine aG.bnd (mK t) ?_;rintro R1 h1 d' _ ⟨rfl,If⟩;obtain rfl:d'=d:=by simp_all
 cases d' with
 |interface _=>cases ok
 |array _ _=>cases ok
 |struct _=>cases ok
 |_=>exact aG.ret rfl
def zeS (ht:J9 P t)(b:Bool)(k k':aF):aG P S K lH (G9 b 10000 t k) R (G9 b 10000 t k'):=zzS 9999 ht b k k'
theorem zzj (hR:qJ P K R){a a' b b':aF}(fa:Flat a)(fb:Flat b)(ha:VR S K R a a')(hb:VR S K R b b'):aG P S K (VA S K) (Pu a b) R (Pu a' b'):=by
 unfold Pu;rw[zGq hR 10000 fa fb ha hb];split
 .exact aG.ret hb
 .refine aG.bnd (ze3 _) ?_
  rintro R1 h1 n _ rfl;refine aG.ret ?_;split
  .exact hb.mono h1.le
  .exact ha.mono h1.le
theorem rA.keyD (h:rA S K R es eY)(i:Nat)(hk:VR S K R k k'):VR S K R (((es[i]?).map (·.key)).getD k) (((eY[i]?).map (·.key)).getD k'):=by
 cases q:es[i]? with
 |none=>rw[h.none q];exact hk
 |some e=>
  obtain⟨e',q',r⟩:=h.get q;rw[q']
  cases r with
  |mk a b=>exact a
theorem zB5 (h:Flat k/\∀e,es.toList[i]? =some e->Flat e.key):Flat (((es[i]?).map (·.key)).getD k):=by grind
theorem rA.isEmpty (h:rA S K R es eY):es.isEmpty=eY.isEmpty:=by simp[Array.isEmpty,h.1]
theorem zzK (hz:Iv P S)(ht:∀k e,P.underlying t=some (.map k e)->J9 P k)(hR:qJ P K R)(hx:VR S K R x x')(hk:VR S K R k k')(c:Bool):
 aG P S K (VA S K) (Ah t x k c) R (Ah t x' k' c):=by
 unfold Ah;refine aG.bnd (mK t) ?_;rintro R1 h1 d _ ⟨rfl,hd⟩
 cases d with
 |map kt el=>
  have hK:=ht kt el hd
  have tail:∀R2,wZ P K R1 R2->∀es eY,rA S K R2 es eY->aG P S K (VA S K)
   (do
    G9 es.isEmpty 10000 kt k
    let r<-Ls kt k es.toList
    match r with
    |some (_,v)=>do let x<-pure (v,true);pure (if c=true then Xh #[x.fst,.bool x.snd] else x.fst)
    |none=>do let z<-zeroValue el;let x<-pure (z,false);pure (if c=true then Xh #[x.fst,.bool x.snd] else x.fst)) R2
   (do
    G9 eY.isEmpty 10000 kt k'
    let r<-Ls kt k' eY.toList
    match r with
    |some (_,v)=>do let x<-pure (v,true);pure (if c=true then Xh #[x.fst,.bool x.snd] else x.fst)
    |none=>do let z<-zeroValue el;let x<-pure (z,false);pure (if c=true then Xh #[x.fst,.bool x.snd] else x.fst)):=by
   intro R2 h2 es eY he;rw[he.isEmpty];refine aG.bnd (zeS hK _ _ _) ?_;rintro R3 h3 _ _ rfl;have Om:=h3.ok (h2.ok (h1.ok hR));have Jv:=((hk.mono h1.le).mono h2.le).mono h3.le;have fin:∀{R5:Pr} {v v':aF} {b:Bool},VR S K R5 v v'->aG P S K (VA S K) (do let x<-pure (v,b);pure (if c=true then Xh #[x.fst,.bool x.snd] else x.fst)) R5 (do let x<-pure (v',b);pure (if c=true then Xh #[x.fst,.bool x.snd] else x.fst)):=by
    intro R5 v v' b hv;refine aG.bnd (aG.ret (A:=λR (a b:aF×Bool)=>VR S K R a.1 b.1/\a.2=b.2) ⟨hv,rfl⟩) ?_;rintro R5 h5 ⟨v,b⟩ ⟨v',b'⟩ ⟨hv,e⟩;cases e
    cases c with
    |true=>exact aG.ret (VR.tuple' ((bL.empty.push hv).push (.bool b)))
    |false=>exact aG.ret hv
   refine aG.bnd (zlm hK Om Jv (he.mono h3.le).toList) ?_;intro R4 h4 r r' hr
   cases hr with
   |some hv=>exact fin hv
   |none=>
    refine aG.bnd (Pz hz el) ?_;simp_all
  cases hx with
  |map h=>
   cases h with
   |none=>exact aG.bnd (aG.ret (A:=λR a b=>rA S K R a b) ⟨rfl,λi e e' h=>by simp at h⟩) tail
   |some h=>
    refine aG.bnd (Ul (h1.le _ _ h)) ?_;intro R2 h2 o o' ho
    cases ho with
    |map he=>grind
    |_=>exact .inl (bM.bnd _)
  |_=>exact .inl (bM.bnd _)
 |_=>exact .inl bM
theorem zBD (ht:∀k e,P.underlying t=some (.map k e)->J9 P k)(hR:qJ P K R){v v':aF}(hx:VR S K R x x')(hk:VR S K R k k')(hv:VR S K R v v'):
 aG P S K lH (Hh t x k v) R (Hh t x' k' v'):=by
 unfold Hh;refine aG.bnd (mK t) ?_;rintro R1 h1 d _ ⟨rfl,hd⟩
 cases d with
 |map kt el=>
  have hK:=ht kt el hd
  cases hx with
  |map h=>
   cases h with
   |none=>exact .inl vR
   |some h=>
    refine aG.bnd (Ul (h1.le _ _ h)) ?_;intro R2 h2 o o' ho
    cases ho with
    |map he=>
     rename_i cl;refine aG.bnd (zeS hK _ _ _) ?_;rintro R3 h3 _ _ rfl;have Om:=h3.ok (h2.ok (h1.ok hR));have Jv:=((hk.mono h1.le).mono h2.le).mono h3.le;have Fe:=h3.le _ _ (h2.le _ _ (h1.le _ _ h));have Hc:=((hv.mono h1.le).mono h2.le).mono h3.le;refine aG.bnd (zlm hK Om Jv (he.mono h3.le).toList) ?_;intro R4 h4 r r' hr
     cases hr with
     |some hq zfD=>
      refine aG.bnd (zzj (h4.ok Om) (zB5 zfD) zfD.1 (((he.mono h3.le).mono h4.le).keyD _ (Jv.mono h4.le)) (Jv.mono h4.le)) ?_;intro R5 h5 kk J5 gD;refine zcl (h5.le _ _ (h4.le _ _ Fe)) (.map (rA.modify (((he.mono h3.le).mono h4.le).mono h5.le) _ ?_));intro e e' zAf
      cases zAf with
      |mk a b=>exact .mk gD ((Hc.mono h4.le).mono h5.le)
     |none=>exact zcl (h4.le _ _ Fe) (.map (rA.push ((he.mono h3.le).mono h4.le) (.mk (Jv.mono h4.le) (Hc.mono h4.le))))
    |_=>exact .inl bM
  |_=>exact .inl bM
 |_=>exact .inl bM
end
section
variable {P:dB}{S:aN->Prop}{K:Pr}{α β γ δ:Type}{R:Pr}
variable {xs bV:Array aF}
theorem bL.opt (h:bL S K R xs bV)(i:Nat):Ae S K R xs[i]? bV[i]? :=by
 cases q:xs[i]? with
 |none=>rw[h.none q];exact .none
 |some v=>obtain⟨v',q',hv⟩:=h.get q;rw[q'];exact .some hv
theorem sim_len (ts:Array aM)(t:aM)(h:bL S K R xs bV):aG P S K (VA S K) (zml ts t xs) R (zml ts t bV):=by
 unfold zml
 cases ts[0]? with
 |none=>exact .inl bM
 |some t=>
  have ho:=h.opt 0;generalize xs[0]? =o at ho;generalize bV[0]? =o' at ho
  cases ho with
  |none=>exact .inl bM
  |some hv=>
   simp only;refine aG.bnd (mK t) ?_;rintro R1 h1 d _ ⟨rfl,hd⟩
   cases d with
   |string=>cases hv with
    |string s=>exact aG.ret (.int _ _)
    |_=>exact .inl bM
   |array n e=>exact aG.ret (.int _ _)
   |pointer arr=>
    refine aG.bnd (mK arr) ?_;rintro R2 h2 d2 _ ⟨rfl,Bv⟩
    cases d2 with
    |array n e=>exact aG.ret (.int _ _)
    |_=>exact .inl bM
   |slice e=>cases hv with
    |slice _=>exact aG.ret (.int _ _)
    |_=>exact .inl bM
   |map k e=>cases hv with
    |map hm=>cases hm with
     |none=>exact aG.ret (.int _ _)
     |some hm=>
      refine aG.bnd (Ul (h1.le _ _ hm)) ?_;intro R2 h2 o o' ho
      cases ho with
      |map he=>simp only;rw[he.1];exact aG.ret (.int _ _)
      |_=>exact .inl bM
    |_=>exact .inl bM
   |chan k e=>cases hv with
    |chan hm=>cases hm with
     |none=>exact aG.ret (.int _ _)
     |some hm=>
      refine aG.bnd (znS (hm.imp (h1.le _ _) id)) ?_;intro R2 h2 o o' ho
      cases ho with
      |chan he=>simp only;rw[he.1];exact aG.ret (.int _ _)
      |_=>exact .inl bM
    |_=>exact .inl bM
   |_=>exact .inl bM
theorem sim_cap (ts:Array aM)(t:aM)(h:bL S K R xs bV):aG P S K (VA S K) (znA ts t xs) R (znA ts t bV):=by
 unfold znA
 cases ts[0]? with
 |none=>exact .inl bM
 |some t=>
  have ho:=h.opt 0;generalize xs[0]? =o at ho;generalize bV[0]? =o' at ho
  cases ho with
  |none=>exact .inl bM
  |some hv=>
   simp only;refine aG.bnd (mK t) ?_;rintro R1 h1 d _ ⟨rfl,hd⟩
   cases d with
   |array n e=>exact aG.ret (.int _ _)
   |pointer arr=>
    refine aG.bnd (mK arr) ?_;rintro R2 h2 d2 _ ⟨rfl,Bv⟩
    cases d2 with
    |array n e=>exact aG.ret (.int _ _)
    |_=>exact .inl bM
   |slice e=>cases hv with
    |slice _=>exact aG.ret (.int _ _)
    |_=>exact .inl bM
   |chan k e=>cases hv with
    |chan hm=>cases hm with
     |none=>exact aG.ret (.int _ _)
     |some hm=>
      refine aG.bnd (znS (hm.imp (h1.le _ _) id)) ?_;intro R2 h2 o o' ho
      cases ho with
      |chan he=>exact aG.ret (.int _ _)
      |_=>exact .inl bM
    |_=>exact .inl bM
   |_=>exact .inl bM
variable {ts:Array aM}
theorem zFT (t:aM)(ht:∀mt k e,ts[0]? =some mt->P.underlying mt=some (.map k e)->J9 P k)(hR:qJ P K R)(h:bL S K R xs bV):
 aG P S K (VA S K) (Lq ts t xs) R (Lq ts t bV):=by
 unfold Lq
 cases e0:ts[0]? with
 |none=>exact .inl bM
 |some mt=>
  have ho:=h.opt 0;have zE:=h.opt 1;generalize xs[0]? =o at ho;generalize bV[0]? =o' at ho;generalize xs[1]? =p at zE;generalize bV[1]? =p' at zE
  cases ho with
  |none=>exact .inl bM
  |some hm=>
   cases zE with
   |none=>exact .inl bM
   |some hk=>
    simp only;refine aG.bnd (mK mt) ?_;rintro R1 h1 d _ ⟨rfl,hd⟩
    cases d with
    |map kt el=>
     have hK:=ht mt kt el e0 hd;have fin:∀{R2:Pr},aG P S K (VA S K) (pure (.tuple #[])) R2 (pure (.tuple #[])):=aG.ret (VR.tuple' bL.empty)
     cases hm with
     |map hm=>
      cases hm with
      |none=>exact aG.bnd (zeS hK _ _ _) (λ_ _ _ _ _=>fin)
      |some hm=>
       refine aG.bnd (Ul (h1.le _ _ hm)) ?_;intro R2 h2 o o' ho
       cases ho with
       |map he=>
        simp only;rw[he.isEmpty];refine aG.bnd (zeS hK _ _ _) ?_;rintro R3 h3 _ _ rfl;have Om:=h3.ok (h2.ok (h1.ok hR));have Jv:=((hk.mono h1.le).mono h2.le).mono h3.le;have Fe:=h3.le _ _ (h2.le _ _ (h1.le _ _ hm));refine aG.bnd (zlm hK Om Jv (he.mono h3.le).toList) ?_;intro R4 h4 r r' hr
        cases hr with
        |some hq=>exact aG.bnd (zcl (h4.le _ _ Fe) (.map (((he.mono h3.le).mono h4.le).erase _))) (λ_ _ _ _ _=>fin)
        |none=>exact aG.bnd (zcl (h4.le _ _ Fe) (.map ((he.mono h3.le).mono h4.le))) (λ_ _ _ _ _=>fin)
       |_=>exact .inl (bM.bnd _)
     |_=>exact .inl (bM.bnd _)
    |_=>exact .inl bM
variable {x':aF}
theorem zrw {x:aF}(h:VR S K R x x'):aG P S K lH (zoz x) R (zoz x'):=by
 cases h with
 |slice _=>exact aG.ret rfl
 |string s=>exact aG.ret rfl
 |_=>exact .inl bM
theorem zbr (size n:Nat){x:aF}(h:VR S K R x x'):aG P S K (λR a b=>bL S K R a b) (Uy size n x) R (Uy size n x'):=by
 cases h with
 |slice ha=>cases ha with
  |none=>exact aG.ret bL.empty
  |some ha=>exact zjR ha _
 |string s=>
  refine aG.ret ⟨rfl,λi v v' h1 h2=>?_⟩;rw[h1] at h2;injection h2 with e;subst e;rw[Fo] at h1
  cases q:(s.extract 0 n).data[i]? with
  |none=>rw[q] at h1;cases h1
  |some b=>rw[q] at h1;cases h1;exact .int _ _
 |_=>exact .inl bM
theorem zgL {z z':Array aF}(h:bL S K R z z')(n:Nat):bL S K R (pU z n) (pU z' n):=by
 refine⟨by simp[pU,h.1],λi v v' h1 h2=>?_⟩;unfold pU at h1 h2;rw[Fo] at h1 h2;rw[<-h.1] at h2
 cases q:(N1 (n*z.size))[i]? with
 |none=>rw[q] at h1;cases h1
 |some j=>
  rw[q] at h1 h2;cases h1;cases h2
  cases q1:z[j%z.size]? with
  |none=>
   have q2:=h.none q1;show VR S K R (z[j%z.size]!) (z'[j%z.size]!);rw[getElem!_def,getElem!_def,q1,q2];exact .bool false
  |some u=>
   obtain⟨u',q2,hu⟩:=h.get q1
   grind
theorem zFj {A:Pr->γ->δ->Prop}{F:Bool->cP γ}{F':Bool->cP δ}(o:Option aM)(hi:∀xt d,o=some xt->P.underlying xt=some d->∀k,d≠ .int k)(hF:∀R3,wZ P K R R3->aG P S K A (F false) R3 (F' false)):
 aG P S K A (match(generalizing:=false) o with|some xt=>do let l<-underlying xt;let zeros<-pure (match l with| .int k=>true|x=>false);F zeros|none=>do let zeros<-pure false;F zeros) R
  (match(generalizing:=false) o with|some xt=>do let l<-underlying xt;let zeros<-pure (match l with| .int k=>true|x=>false);F' zeros|none=>do let zeros<-pure false;F' zeros):=by
 cases o with
 |none=>
  refine aG.bnd (aG.ret (A:=λ_ a b=>a=false/\b=false) ⟨rfl,rfl⟩) ?_;simp_all
 |some xt=>
  refine aG.bnd (mK xt) ?_;simp_all
theorem zCs (hz:Iv P S)(t:aM)(hi:∀xt d,ts[1]? =some xt->P.underlying xt=some d->∀k,d≠ .int k)(h:bL S K R xs bV):
 aG P S K (VA S K) (wQ ts t xs) R (wQ ts t bV):=by
 unfold wQ
 cases e0:ts[0]? with
 |none=>exact .inl bM
 |some st=>
  have ho:=h.opt 0;have zE:=h.opt 1;generalize xs[0]? =o at ho;generalize bV[0]? =o' at ho;generalize xs[1]? =p at zE;generalize bV[1]? =p' at zE
  cases ho with
  |none=>exact .inl bM
  |some hs=>
   cases zE with
   |none=>exact .inl bM
   |some hx=>
    rename_i s s' x x';simp only;refine aG.bnd (mK st) ?_;rintro R1 h1 d _ ⟨rfl,hd⟩
    cases d with
    |slice elem=>
     cases hs with
     |slice hb=>
      rename_i b b' n c;refine aG.bnd (Ba elem) ?_;rintro R2 h2 size _ rfl;have q9:=(hb.mono h1.le).mono h2.le;have vS:=(hx.mono h1.le).mono h2.le;refine zFj ts[1]? hi ?_;intro R3 h3;simp only[Bool.not_false,if_true,gK,if_false,false_or];refine aG.bnd (zrw (vS.mono h3.le)) ?_;rintro R4 h4 m _ rfl;have Pf:=(q9.mono h3.le).mono h4.le;have zwX:=(vS.mono h3.le).mono h4.le;split
      .refine aG.bnd (zbr size m zwX) ?_
       intro R5 h5 w w' hw;have zbl:=Pf.mono h5.le
       cases zbl with
       |none=>exact aG.ret (.slice .none)
       |some ha=>
        refine aG.bnd (Ws _ _ 0 (ha.add _) hw.toList) ?_;rintro R6 h6 _ _ rfl;exact aG.ret (.slice (.some (ha.mono h6.le)))
      .refine aG.bnd (Gl elem) ?_
       rintro R5 h5 inf _ ⟨rfl,zJe⟩;split
       .exact .inl (vR.bnd _)
       .refine aG.bnd (Gl elem) ?_
        rintro R6 h6 zyJ _ ⟨rfl,ztF⟩;have tN:=(Pf.mono h5.le).mono h6.le;have zt0:=(zwX.mono h5.le).mono h6.le;split
        .refine .inl (eH.bnd (eH.then (zye _ _ _ _ _) λsh=>?_) _)
         split
         .exact eH.then (zyZ _) λ_=>jN
         .exact jN
        .refine aG.bnd (ze3 _) ?_
         rintro R7 h7 nc _ rfl;refine aG.bnd (Gl elem) ?_;rintro R8 h8 zEG _ ⟨rfl,zGP⟩;refine aG.bnd (ziV _) ?_;rintro R9 h9 _ _ rfl;have yN:=((tN.mono h7.le).mono h8.le).mono h9.le;have zzn:=((zt0.mono h7.le).mono h8.le).mono h9.le;refine aG.bnd (zbr size n (.slice yN)) ?_;intro zBt Wp o o' ho;refine aG.bnd (zbr size m (zzn.mono Wp.le)) ?_;intro zy8 zcH w w' hw;refine aG.bnd (Pz hz elem) ?_;intro zD9 zbF z z' pY;refine aG.bnd (zal elem (((ho.mono (zcH.trans zbF).le).append (hw.mono zbF.le)).append (zgL pY.cells _))) ?_;intro zBj zHB r r' hr;exact aG.ret (.slice (.some hr))
     |_=>exact .inl bM
    |_=>exact .inl bM
theorem zGN (ts:Array aM)(t:aM)(h:bL S K R xs bV):aG P S K (VA S K) (Dh ts t xs) R (Dh ts t bV):=by
 unfold Dh
 cases e0:ts[0]? with
 |none=>exact .inl bM
 |some st=>
  have ho:=h.opt 0;have zE:=h.opt 1;generalize xs[0]? =o at ho;generalize bV[0]? =o' at ho;generalize xs[1]? =p at zE;generalize bV[1]? =p' at zE
  cases ho with
  |none=>exact .inl bM
  |some hs=>
   cases zE with
   |none=>exact .inl bM
   |some hx=>
    simp only;refine aG.bnd (mK st) ?_;rintro R1 h1 d _ ⟨rfl,hd⟩
    cases d with
    |slice elem=>
     cases hs with
     |slice hb=>
      refine aG.bnd (zrw (hx.mono h1.le)) ?_;rintro R2 h2 m _ rfl;refine aG.bnd (Ba elem) ?_;rintro R3 h3 size _ rfl;refine aG.bnd (zbr size _ (((hx.mono h1.le).mono h2.le).mono h3.le)) ?_;intro R4 h4 w w' hw;have Pf:=(((hb.mono h1.le).mono h2.le).mono h3.le).mono h4.le
      cases Pf with
      |none=>exact aG.ret (.int _ _)
      |some ha=>
       refine aG.bnd (Ws _ _ 0 ha hw.toList) ?_;rintro R6 h6 _ _ rfl;exact aG.ret (.int _ _)
     |_=>exact .inl bM
    |_=>exact .inl bM
theorem aG.ite {α β:Type}{A:Pr->α->β->Prop}{c:Prop}[Decidable c]{s t:cP α}{s' t':cP β}(h1:c->aG P S K A s R s')(h2:¬c->aG P S K A t R t'):aG P S K A (if c then s else t) R (if c then s' else t'):=by grind
variable {xt:aM}{k:Cm}
theorem zy0 {A:Pr->γ->δ->Prop}{F:Bool->cP γ}{F':Bool->cP δ}(hi:P.underlying xt=some (.int k))(hF:∀R3,wZ P K R R3->aG P S K A (F true) R3 (F' true)):
 aG P S K A (match(generalizing:=false) (some xt:Option aM) with|some xt=>do let l<-underlying xt;let zeros<-pure (match l with| .int k=>true|x=>false);F zeros|none=>do let zeros<-pure false;F zeros) R
  (match(generalizing:=false) (some xt:Option aM) with|some xt=>do let l<-underlying xt;let zeros<-pure (match l with| .int k=>true|x=>false);F' zeros|none=>do let zeros<-pure false;F' zeros):=by
 refine aG.bnd (mK xt) ?_;simp_all
theorem zHR (hz:Iv P S)(t:aM)(e1:ts[1]? =some xt)(hi:P.underlying xt=some (.int k))(h:bL S K R xs bV):
 aG P S K (VA S K) (wQ ts t xs) R (wQ ts t bV):=by
 unfold wQ
 cases e0:ts[0]? with
 |none=>exact .inl bM
 |some st=>
  have ho:=h.opt 0;have zE:=h.opt 1;generalize xs[0]? =o at ho;generalize bV[0]? =o' at ho;generalize xs[1]? =p at zE;generalize bV[1]? =p' at zE
  cases ho with
  |none=>exact .inl bM
  |some hs=>
   cases zE with
   |none=>exact .inl bM
   |some hx=>
    rename_i s s' x x';simp only;refine aG.bnd (mK st) ?_;rintro R1 h1 d _ ⟨rfl,hd⟩
    cases d with
    |slice elem=>
     cases hs with
     |slice hb=>
      rename_i b b' n c;refine aG.bnd (Ba elem) ?_;rintro R2 h2 size _ rfl;have q9:=(hb.mono h1.le).mono h2.le;have vS:=(hx.mono h1.le).mono h2.le;rw[e1];refine zy0 hi ?_;intro R3 h3;rw[if_pos rfl,if_pos rfl];refine aG.bnd (Zi (vS.mono h3.le)) ?_;rintro R4 h4 l0 _ rfl;refine aG.ite (λ_=>.inl (eH.bnd vR _)) (λ_=>?_);refine aG.bnd (Gl elem) ?_;rintro zKf zyj zKV _ ⟨rfl,fH⟩;refine aG.ite (λ_=>.inl (eH.then (znj _) λ_=>eH.bnd vR _)) (λ_=>?_);refine aG.bnd (A:=lH) (aG.ret rfl) ?_;rintro zKU zyk m _ rfl;have Pf:=(((q9.mono h3.le).mono h4.le).mono zyj.le).mono zyk.le;have new:∀{R5:Pr},aG P S K (λR a b=>bL S K R a b) (if(!true)=true then Uy size m x else if m*size=0 then pure #[] else do pure (pU (<-zeroValue elem).cells m)) R5 (if(!true)=true then Uy size m x' else if m*size=0 then pure #[] else do pure (pU (<-zeroValue elem).cells m)):=by
       intro R5;refine aG.ite (λh=>by cases h) (λ_=>?_);refine aG.ite (λ_=>aG.ret bL.empty) (λ_=>?_);exact aG.bnd (Pz hz elem) λR6 h6 z z' pY=>aG.ret (zgL pY.cells _)
      refine aG.ite (λ_=>?_) (λ_=>?_)
      .refine aG.bnd new ?_
       intro R5 h5 w w' hw;have zbl:=Pf.mono h5.le
       cases zbl with
       |none=>exact aG.ret (.slice .none)
       |some ha=>
        refine aG.bnd (Ws _ _ 0 (ha.add _) hw.toList) ?_;rintro R6 h6 _ _ rfl;exact aG.ret (.slice (.some (ha.mono h6.le)))
      .refine aG.bnd (Gl elem) ?_
       rintro zK4 zyr zIG _ ⟨rfl,yR⟩;refine aG.ite (λ_=>.inl (eH.bnd vR _)) (λ_=>?_);refine aG.bnd (Gl elem) ?_;rintro R6 h6 zyJ _ ⟨rfl,ztF⟩;have tN:=(Pf.mono zyr.le).mono h6.le;refine aG.ite (λ_=>.inl (eH.bnd (by rw[if_pos rfl];exact vR) _)) (λ_=>?_);refine aG.bnd (ze3 _) ?_;rintro R7 h7 nc _ rfl;refine aG.bnd (Gl elem) ?_;rintro R8 h8 zEG _ ⟨rfl,zGP⟩;refine aG.bnd (ziV _) ?_;rintro R9 h9 _ _ rfl;have yN:=((tN.mono h7.le).mono h8.le).mono h9.le;refine aG.bnd (zbr size n (.slice yN)) ?_;intro zBt Wp o o' ho;refine aG.bnd new ?_;intro zy8 zcH w w' hw;refine aG.bnd (Pz hz elem) ?_;intro zD9 zbF z z' pY;refine aG.bnd (zal elem (((ho.mono (zcH.trans zbF).le).append (hw.mono zbF.le)).append (zgL pY.cells _))) ?_;intro zBj zHB r r' hr;exact aG.ret (.slice (.some hr))
     |_=>exact .inl bM
    |_=>exact .inl bM
theorem zA1 (hz:Iv P S)(ts:Array aM)(t:aM)(h:bL S K R xs bV):aG P S K (VA S K) (Qn ts t xs) R (Qn ts t bV):=by
 unfold Qn
 cases e0:ts[0]? with
 |none=>exact .inl bM
 |some st=>
  have ho:=h.opt 0;generalize xs[0]? =o at ho;generalize bV[0]? =o' at ho;have fin:∀{R2:Pr},aG P S K (VA S K) (pure (.tuple #[])) R2 (pure (.tuple #[])):=aG.ret (VR.tuple' bL.empty)
  cases ho with
  |none=>exact .inl bM
  |some hs=>
   simp only;refine aG.bnd (mK st) ?_;rintro R1 h1 d _ ⟨rfl,hd⟩
   cases hs with
   |map hm=>
    cases hm with
    |none=>cases d<;>exact fin
    |some hm=>
     cases d
     all_goals
      refine aG.bnd (Ul (h1.le _ _ hm)) ?_;intro R2 h2 o o' ho
      cases ho with
      |map he=>exact aG.bnd (zcl (h2.le _ _ (h1.le _ _ hm)) (.map ⟨rfl,λi e e' h=>by simp at h⟩)) (λ_ _ _ _ _=>fin)
      |_=>exact .inl (by first|exact bM|exact bM.bnd _)
   |slice hb=>
    rename_i b b' n c
    cases hb with
    |none=>cases d<;>exact fin
    |some ha=>
     cases n with
     |zero=>cases d<;>exact fin
     |succ n=>
      cases d with
      |slice elem=>
       refine aG.bnd (Pz hz elem) ?_;intro R2 h2 z z' pY;refine aG.bnd (Ws _ _ 0 ((ha.mono h1.le).mono h2.le) (zgL pY.cells _).toList) ?_;simp_all
      |_=>exact .inl (bM.bnd _)
   |_=>cases d<;>exact .inl (bM.bnd _)
end
section
variable {P:dB}{S:aN->Prop}{K:Pr}{α β γ δ:Type}{R:Pr}
theorem zFa (t:aM){v v':aF}(h:VR S K R v v'):aG P S K (VA S K) (ziH t v) R (ziH t v'):=by
 unfold ziH;refine aG.bnd (mK t) ?_;rintro R1 h1 d _ ⟨rfl,hd⟩
 cases d with
 |interface _=>exact .inl bM
 |_=>exact aG.ret (.iface (h.mono h1.le))
theorem zqk {z z':Array aF}(h:bL S K R z z')(n:Nat):bL S K R ((N1 n).map (z[·%z.size]!)) ((N1 n).map (z'[·%z'.size]!)):=by
 refine⟨aQ,λi v v' h1 h2=>?_⟩;rw[Fo] at h1 h2;rw[<-h.1] at h2
 cases q:(N1 n)[i]? with
 |none=>rw[q] at h1;cases h1
 |some j=>
  rw[q] at h1 h2;cases h1;cases h2
  cases q1:z[j%z.size]? with
  |none=>
   have q2:=h.none q1;show VR S K R (z[j%z.size]!) (z'[j%z.size]!);rw[getElem!_def,getElem!_def,q1,q2];exact .bool false
  |some u=>
   obtain⟨u',q2,hu⟩:=h.get q1
   grind
theorem ztw (hz:Iv P S)(n:Nat)(e:aM){F F':Array aF->cP aF}(hF:∀R1,wZ P K R R1->∀z z',bL S K R1 z z'->aG P S K (VA S K) (F z) R1 (F' z')):
 aG P S K (VA S K) (if n=0 then do let z<-pure #[];F z else do let l<-zeroValue e;let z<-pure l.cells;F z) R (if n=0 then do let z<-pure #[];F' z else do let l<-zeroValue e;let z<-pure l.cells;F' z):=by
 split
 .exact aG.bnd (aG.ret (A:=λR a b=>bL S K R a b) bL.empty) hF
 .refine aG.bnd (Pz hz e) ?_
  intro R1 h1 z z' pY;exact aG.bnd (aG.ret (A:=λR a b=>bL S K R a b) pY.cells) (λR2 h2 a b qK=>hF R2 (h1.trans h2) a b qK)
theorem zzc (hz:Iv P S)(t:aM){l l' c c':aF}(hl:VR S K R l l')(hc:VR S K R c c'):aG P S K (VA S K) (zlE t l c) R (zlE t l' c'):=by
 unfold zlE;refine aG.bnd (mK t) ?_;rintro R1 h1 d _ ⟨rfl,hd⟩
 cases d with
 |slice elem=>
  refine aG.bnd (Zi (hl.mono h1.le)) ?_;rintro R2 h2 ln _ rfl;refine aG.bnd (Zi ((hc.mono h1.le).mono h2.le)) ?_;rintro R3 h3 cp _ rfl;refine aG.bnd (Gl elem) ?_;rintro R4 h4 inf _ ⟨rfl,hi⟩;simp only;split
  .left
   split
   .exact vR.bnd _
   .split
    .exact vR.bnd _
    .exact eH.then (znj _) λ_=>vR.bnd _
  .refine aG.bnd (ziV _) ?_
   rintro R5 h5 _ _ rfl;refine aG.bnd (Ba elem) ?_;rintro R6 h6 sz _ rfl;refine ztw hz _ elem ?_;intro R7 h7 z z' pY;refine aG.bnd (zal elem (zqk pY _)) ?_;intro R8 h8 r r' hr;exact aG.ret (.slice (.some hr))
 |_=>exact .inl bM
inductive PsR (S:aN->Prop)(K R:Pr):List (Nat×aF)->List (Nat×aF)->Prop
 |nil:PsR S K R [] []
 |cons {i:Nat} {v v':aF} {l l':List (Nat×aF)}:VR S K R v v'->PsR S K R l l'->PsR S K R ((i,v)::l) ((i,v')::l')
theorem PsR.mono {R':Pr}(hR:R.le R'){l l':List (Nat×aF)}(h:PsR S K R l l'):PsR S K R' l l':=by
 induction h with
 |nil=>exact .nil
 |cons a _ ih=>exact .cons (a.mono hR) ih
inductive OarR (S:aN->Prop)(K R:Pr):Option (Array aF)->Option (Array aF)->Prop
 |none:OarR S K R none none
 |some {c c':Array aF}:bL S K R c c'->OarR S K R (some c) (some c')
theorem zvr (off:Nat):∀(l l':List aF) (j:Nat) {c c':Array aF},xX S K R l l'->bL S K R c c'->
 bL S K R ((l.zipIdx j).foldl (λcs (x:aF×Nat)=>cs.setIfInBounds (off+x.2) x.1) c) ((l'.zipIdx j).foldl (λcs (x:aF×Nat)=>cs.setIfInBounds (off+x.2) x.1) c')
 |[],[],j,c,c',_,h=>h
 |[],_::_,_,_,_,h,_=>by have:=h.1;simp at this
 |_::_,[],_,_,_,h,_=>by have:=h.1;simp at this
 |x::l,x'::l',j,c,c',h,hc=>by
  obtain⟨a,b⟩:=h.cons;simp only[List.zipIdx_cons,List.foldl_cons];exact zvr off l l' (j+1) b (hc.set _ a)
theorem zmE (place:Nat->Option (Nat×Nat)):∀(l l':List (Nat×aF)) {c c':Array aF},PsR S K R l l'->bL S K R c c'->OarR S K R (M0 place c l) (M0 place c' l')
 |[],_,c,c',.nil,h=>.some h
 |(i,v)::l,(_,v')::l',c,c',.cons a b,h=>by
  unfold M0
  cases place i with
  |none=>exact .none
  |some os=>
   obtain⟨off,size⟩:=os;have e1:=a.cells.1;have e2:=h.1;simp only;rw[e1,e2];split
   .exact .none
   .refine zmE place l l' b ?_
    have:=zvr off v.cells.toList v'.cells.toList 0 a.cells.toList h;rw[<-zpI,<-zpI];simpa using this
variable {ps S4:Array (Nat×aF)}
theorem zyB (hz:Iv P S)(t:aM)(n:Nat)(h:PsR S K R ps.toList S4.toList):aG P S K (VA S K) (zkF t n ps) R (zkF t n S4):=by
 unfold zkF;refine aG.bnd (mK t) ?_;rintro R1 h1 d _ ⟨rfl,hd⟩
 cases d with
 |slice elem=>
  refine aG.bnd (Ba elem) ?_;rintro R2 h2 size _ rfl;simp only;split
  .exact .inl (eH.bnd jN _)
  .refine ztw hz _ elem ?_
   intro R3 h3 z z' pY;have hf:=zmE (λi=>some (i*size,size)) _ _ (((h.mono h1.le).mono h2.le).mono h3.le) (zqk pY (n*size));revert hf;generalize M0 _ _ ps.toList=o;generalize M0 _ _ S4.toList=o';intro hf
   cases hf with
   |none=>exact .inl bM
   |some hc=>
    refine aG.bnd (zal elem hc) ?_;intro R8 h8 r r' hr;exact aG.ret (.slice (.some hr))
 |_=>exact .inl bM
theorem zoX {ι κ:Type}{f:ι->cP κ}(hf:∀x (R:Pr),aG P S K lH (f x) R (f x)):∀(l:List ι) {R:Pr},aG P S K lH (l.mapM f) R (l.mapM f)
 |[],R=>by rw[List.mapM_nil];exact aG.ret rfl
 |x::l,R=>by
  rw[List.mapM_cons];refine aG.bnd (hf x R) ?_;rintro R1 h1 a _ rfl;refine aG.bnd (zoX hf l) ?_;rintro R2 h2 b _ rfl;exact aG.ret rfl
theorem zyw (hz:Iv P S)(t:aM)(h:PsR S K R ps.toList S4.toList):aG P S K (VA S K) (zkU t ps) R (zkU t S4):=by
 have fin:∀{R3:Pr} (place:Nat->Option (Nat×Nat)) (Uk:String) {z z':Array aF},R.le R3->bL S K R3 z z'->aG P S K (VA S K) (match M0 place z ps.toList with|some cells=>pure (.agg cells)|_=>stuck Uk) R3 (match M0 place z' S4.toList with|some cells=>pure (.agg cells)|_=>stuck Uk):=by
  intro R3 place Uk z z' hle pY;have hf:=zmE place _ _ (h.mono hle) pY;revert hf;generalize M0 _ _ ps.toList=o;generalize M0 _ _ S4.toList=o';intro hf
  cases hf with
  |none=>exact .inl bM
  |some hc=>exact aG.ret (VR.agg' hc)
 unfold zkU;refine aG.bnd (Pz hz t) ?_;intro R1 h1 z z' pY;refine aG.bnd (mK t) ?_;rintro R2 h2 d _ ⟨rfl,hd⟩
 cases d with
 |struct fields=>
  refine aG.bnd (A:=lH) ?_ ?_
  .rw[Array.mapM_eq_mapM_toList,map_eq_pure_bind]
   refine aG.bnd (zoX (λf R=>aG.bnd (Ba _) (λR1 h1 a b e=>by cases e;exact aG.ret rfl)) fields.toList) ?_;rintro R3 h3 l _ rfl;exact aG.ret rfl
  .rintro R3 h3 places _ rfl
   exact fin _ _ (h1.trans (h2.trans h3)).le ((pY.cells.mono h2.le).mono h3.le)
 |array n elem=>
  refine aG.bnd (Ba elem) ?_;rintro R3 h3 size _ rfl;exact fin _ _ (h1.trans (h2.trans h3)).le ((pY.cells.mono h2.le).mono h3.le)
 |_=>exact .inl bM
end
section
variable {P:dB}{S:aN->Prop}{K:Pr}{R:Pr}
theorem zqb (op:Mm)(k:Cm)(a b:Int):aG P S K (VA S K) (zw7 op k a b) R (zw7 op k a b):=by
 cases op<;>first|exact aG.ret (.int _ _)|exact .inl bM
theorem zEi (op:Mm)(k:Cm)(a b:Int):aG P S K (VA S K) (zjl op k a b) R (zjl op k a b):=by
 unfold zjl;split
 .exact .inl vR
 .cases op<;>first|exact aG.ret (.int _ _)|exact .inl bM
theorem zx0 (op:Mm)(k:Cm)(a b:Int):aG P S K (VA S K) (zn7 op k a b) R (zn7 op k a b):=by
 cases op<;>first|exact aG.ret (.int _ _)|exact .inl bM
theorem zwR (op:Mm)(k:Cm)(a:Int)(k':Cm)(b:Int):aG P S K (VA S K) (zif op k a k' b) R (zif op k a k' b):=by
 unfold zif;split
 .exact .inl vR
 .cases op<;>first|exact aG.ret (.int _ _)|exact .inl bM
theorem ze0 (op:Mm)(a b:Int):aG P S K (VA S K) (Op.intCmp op a b) R (Op.intCmp op a b):=by
 cases op<;>first|exact aG.ret (.bool _)|exact .inl bM
theorem Z0 (op:Mm)(a b:ByteArray):aG P S K (VA S K) (zhL op a b) R (zhL op a b):=by
 unfold zhL;cases op<;>first|exact aG.ret (.bool _)|exact .inl bM|skip
 simp only;split
 .exact .inl jN
 .exact aG.ret (.string _)
variable {x x':aF}
theorem zH6 (op:UnOp)(h:VR S K R x x'):aG P S K (VA S K) (Op.unary op x) R (Op.unary op x'):=by
 cases h with
 |int k n=>cases op<;>first|exact zqb .sub k 0 n|exact zx0 .xor k _ n|exact .inl bM
 |bool b=>cases op<;>first|exact aG.ret (.bool _)|exact .inl bM
 |pointer h=>cases h<;>cases op<;>first|exact .inl jN|exact .inl bM
 |_=>cases op<;>exact .inl bM
theorem dB.cellOfByte_g (P:dB):∀(d:Nat) (t:aM) (o:Nat),cellOfByte P.g d t o=cellOfByte P.c d t o:=by
 intro d
 induction d with
 |zero=>intro t o;rfl
 |succ d ih=>
  intro t o;unfold cellOfByte;rw[P.underlying_g];simp only[ih,P.cells_g,P.bytes_g];rfl
theorem dB.cellAtBytes_g (P:dB)(d:Nat)(e:aM)(c o:Nat)(b:Int):cellAtBytes P.g d e c o b=cellAtBytes P.c d e c o b:=by
 unfold cellAtBytes;simp only[P.cells_g,P.bytes_g,P.byteOfCell_g,P.cellOfByte_g];rfl
variable {y y':aF}
theorem zvL (ts:Array aM)(t:aM)(hx:VR S K R x x')(hy:VR S K R y y'):aG P S K (λR v v'=>∃a a',v=.pointer a/\v'=.pointer a'/\xP R a a') (N6 ts t #[x,y]) R (N6 ts t #[x',y']):=by
 unfold N6
 cases hx with
 |pointer hp=>
  refine aG.bnd (Zi hy) ?_;rintro R1 h1 n _ rfl;by_cases hn:n=0
  .simp only[if_pos hn]
   cases hp with
   |none=>exact .inl jN
   |some ha=>
    cases ha with
    |mk hr=>
     refine aG.bnd (zxj (h1.le _ _ hr)) ?_;rintro R2 h2 _ _ ⟨rfl,rfl⟩;exact aG.ret ⟨_,_,rfl,rfl,.some (.mk (h2.le _ _ (h1.le _ _ hr)))⟩
  .simp only[if_neg hn]
   by_cases h0:n<0
   .simp only[if_pos h0]
    exact .inl (eH.bnd jN _)
   .simp only[if_neg h0]
    cases hp with
    |none=>exact .inl jN
    |some ha=>
     cases ha with
     |mk hr=>
      refine aG.bnd (za0 (h1.le _ _ hr)) ?_;rintro R2 h2 x _ rfl
      cases x with
      |none=>exact .inl jN
      |some x=>
       obtain⟨e,n⟩:=x;refine aG.bnd Ql ?_;rintro R3 h3 p q ⟨rfl,rfl⟩;simp only[P.cells_g,P.depth_g,P.cellAtBytes_g];split
       .exact aG.ret ⟨_,_,rfl,rfl,.some (.mk (h3.le _ _ (h2.le _ _ (h1.le _ _ hr))))⟩
       .exact .inl jN
 |_=>exact .inl bM
theorem zaf (ts:Array aM)(t:aM)(hx:VR S K R x x')(hy:VR S K R y y'):aG P S K (VA S K) (N6 ts t #[x,y]) R (N6 ts t #[x',y']):=
 (zvL ts t hx hy).mono λR' _ a b h=>by
  obtain⟨p,p',rfl,rfl,h⟩:=h;exact .pointer h
variable {a':bD}
theorem zHV {a:bD}(h:fL R a a')(l:Bool):aG P S K (VA S K) (asNumber a l) R (asNumber a' l):=by
 unfold asNumber;refine aG.bnd (zeL (.number h)) ?_;rintro R1 h1 n n' hn;exact aG.ret (.pointer (.some (.mk hn)))
theorem zyS {a:bD}(h:fL R a a'):aG P S K (λR x y=>fL R x.1 y.1/\x.2=y.2) (behindNumber a) R (behindNumber a'):=by
 have h0:=h
 cases h with
 |mk h=>
  unfold behindNumber;refine aG.bnd (zjB h) ?_;rintro R1 h1 x y (⟨rfl,rfl⟩|⟨p,p',l,rfl,rfl,hp⟩)
  .exact aG.ret ⟨h0.mono h1.le,rfl⟩
  .exact aG.ret ⟨hp,rfl⟩
theorem ziI (t:aM)(hx:VR S K R x x')(hy:VR S K R y y'):aG P S K (VA S K) (movedNumber t x y) R (movedNumber t x' y'):=by
 unfold movedNumber;refine aG.bnd (mK t) ?_;rintro R1 h1 d _ ⟨rfl,_⟩
 have k:aG P S K (VA S K) (do
  let .pointer (some n):=x|N6 #[] t #[x,y]
  let(a,lost)<-behindNumber n
  match<-N6 #[] t #[.pointer (some a),y] with
  | .pointer (some b)=>asNumber b lost
  |v=>pure v) R1 (do
  let .pointer (some n):=x'|N6 #[] t #[x',y']
  let(a,lost)<-behindNumber n
  match<-N6 #[] t #[.pointer (some a),y'] with
  | .pointer (some b)=>asNumber b lost
  |v=>pure v):=by
  have Ja:=hx.mono h1.le;have zkG:=hy.mono h1.le
  cases hx with
  |pointer hp=>
   cases hp with
   |none=>exact zaf _ _ Ja zkG
   |some ha=>
    refine aG.bnd (zyS (ha.mono h1.le)) ?_;rintro R2 h2 ⟨a,l⟩ ⟨a',l'⟩ ⟨h3,h4⟩;simp only at h3 h4;subst h4;refine aG.bnd (zvL _ _ (.pointer (.some h3)) (zkG.mono h2.le)) ?_;rintro R3 h5 v v' ⟨p,p',rfl,rfl,hb⟩
    cases hb with
    |none=>exact aG.ret (.pointer .none)
    |some hb=>exact zHV hb _
  |junk _=>exact .inl bM
  |_=>exact zaf _ _ Ja zkG
 cases d<;>first|exact k|exact .inl jN|exact .inl (eH.bnd jN _)
theorem zAg (t:aM)(hx:VR S K R x x')(hy:VR S K R y y'):aG P S K (VA S K) (movedPointer t x y) R (movedPointer t x' y'):=by
 unfold movedPointer;have sH:=hx
 cases hx with
 |pointer hp=>
  cases hp with
  |none=>exact zaf _ _ sH hy
  |some ha=>
   have P3:=ha
   cases ha with
   |mk hr=>
    refine aG.bnd (zjB hr) ?_;rintro R1 h1 x y (⟨rfl,rfl⟩|⟨p,p',l,rfl,rfl,hp⟩)
    .exact zaf #[] t (sH.mono h1.le) (hy.mono h1.le)
    .exact .inl jN
 |_=>exact zaf _ _ sH hy
end
section
variable {P:dB}{S:aN->Prop}{K:Pr}{R:Pr}
variable {a a' b b':bD}
theorem zs0 (hR:qJ P K R)(ha:fL R a a')(hb:fL R b b'):aG P S K lH (zi0 a b) R (zi0 a' b'):=by
 unfold zi0;refine aG.bnd zmC ?_;rintro R1 _ p q ⟨rfl,rfl,rfl⟩;have e1:=fL.block_eq hR ha hb;have e2:=fL.low hR ha;have e3:decide (a.block>=P.globals.size)=decide (a'.block>=P.globals.size):=by
  have:=decide_eq_decide.1 e2;exact decide_eq_decide.2 aC
 have hc:(a.block !=b.block||decide (a.block>=P.g.globals.size))=(a'.block !=b'.block||decide (a'.block>=P.c.globals.size)):=by
  rw[P.globals_g];show(!(a.block==b.block)||_)=(!(a'.block==b'.block)||_);rw[e1];congr 1
 by_cases h:(a.block !=b.block||decide (a.block>=P.g.globals.size))=true
 .simp only[if_pos h]
  exact .inl (eH.bnd jN _)
 .have h':¬(a'.block !=b'.block||decide (a'.block>=P.c.globals.size))=true:=by rw[<-hc];exact h
  simp only[if_neg h,if_neg h'];refine aG.bnd (Sc ha) ?_;rintro R4 h4 m _ rfl;refine aG.bnd (Sc (hb.mono h4.le)) ?_;rintro R5 h5 m' _ rfl;exact aG.ret rfl
theorem zBi (hR:qJ P K R)(k:Cm)(ha:fL R a a')(hb:fL R b b'):aG P S K (VA S K) (zj4 k a b) R (zj4 k a' b'):=by
 unfold zj4;refine aG.bnd (zs0 hR ha hb) ?_;rintro R1 _ ⟨x,y⟩ _ rfl;exact aG.ret (.int _ _)
theorem zCn (hR:qJ P K R)(op:Mm)(ha:fL R a a')(hb:fL R b b'):aG P S K (VA S K) (zjP op a b) R (zjP op a' b'):=by
 unfold zjP;refine aG.bnd (zs0 hR ha hb) ?_;rintro R1 _ ⟨x,y⟩ _ rfl;cases op<;>first|exact aG.ret (.bool _)|exact .inl jN
theorem zpR (k:Cm)(ha:fL R a a')(n:Int):aG P S K (VA S K) (zjr k a n) R (zjr k a' n):=by
 unfold zjr;have P3:=ha
 cases ha with
 |mk hr=>
  refine aG.bnd (za0 hr) ?_;rintro R1 h1 x _ rfl
  cases x with
  |none=>exact .inl jN
  |some x=>
   obtain⟨e,c⟩:=x;refine aG.bnd (Gl e) ?_;rintro R2 h2 i _ ⟨rfl,_⟩;simp only;split
   .exact .inl (eH.bnd jN _)
   .refine aG.bnd (Sc (P3.mono (h1.trans h2).le)) ?_
    rintro R3 h3 m _ rfl;exact aG.ret (.int _ _)
theorem zCx (op:Mm)(t:aM){x y:aF}(ho:op≠ .eql/\op≠ .neq)(hx:∀k n,x≠ .int k n)(hs:∀s,x≠ .string s)(hp:∀a,x≠ .pointer a)(hf:∀k n,x≠ .float k n)(hc:∀k n m,x≠ .complex k n m):eH P (binOp op t x y):=by
 unfold binOp;split<;>first|exact bM|exact jN|(exfalso;first|exact hx _ _ rfl|exact hs _ rfl|exact hp _ rfl|exact hf _ _ rfl|exact hc _ _ _ rfl|exact ho.1 rfl|exact ho.2 rfl)
theorem zGK (op:Mm)(t:aM)(ho:op≠ .eql/\op≠ .neq)(hR:qJ P K R){x x' y y':aF}(hx:VR S K R x x')(hy:VR S K R y y'):
 aG P S K (VA S K) (binOp op t x y) R (binOp op t x' y'):=by
 have sH:=hx;have za7:=hy
 cases hx with
 |int k a=>
  cases hy with
  |int k' b=>
   by_cases hk:k=k'
   .subst hk
    cases op<;>simp only[binOp,ne_eq,not_true_eq_false,if_false]<;>first|exact zqb _ _ _ _|exact zEi _ _ _ _|exact zx0 _ _ _ _|exact zwR _ _ _ _ _|exact ze0 _ _ _
   .cases op<;>simp only[binOp,ne_eq,hk,not_false_eq_true,if_true]<;>first|exact zwR _ _ _ _ _|exact .inl bM
  |pointer hp=>
   cases op<;>first|exact absurd rfl ho.1|exact absurd rfl ho.2|exact ziI t za7 sH|skip
   all_goals(cases hp<;>first|exact .inl jN|skip)
   rename_i hb;refine aG.bnd (zob hb) ?_;intro R1 h1 u v zi7;exact zpR _ zi7 _
  |_=>cases op<;>first|exact absurd rfl ho.1|exact absurd rfl ho.2|exact .inl bM
 |string a=>
  cases hy with
  |string b=>cases op<;>simp only[binOp]<;>exact Z0 _ _ _
  |pointer hp=>cases op<;>first|exact absurd rfl ho.1|exact absurd rfl ho.2|exact .inl jN
  |_=>cases op<;>first|exact absurd rfl ho.1|exact absurd rfl ho.2|exact .inl bM
 |pointer hp=>
  cases hy with
  |int k n=>
   have e:∀m,VR S K R (.int k m) (.int k m):=λm=>.int k m;cases op<;>first|exact absurd rfl ho.1|exact absurd rfl ho.2|exact ziI t sH (e _)|skip
   all_goals first|(cases hp<;>first|exact .inl jN|(rename_i hb;refine aG.bnd (zob hb) ?_;intro R1 h1 u v zi7;exact zpR _ zi7 _))|skip
   all_goals
    simp only[binOp];refine aG.bnd (mK t) ?_;rintro R1 h1 d _ ⟨rfl,_⟩;cases d<;>first|exact zAg t (sH.mono h1.le) (za7.mono h1.le)|exact ziI t (sH.mono h1.le) (za7.mono h1.le)
  |pointer hq=>
   cases hp with
   |none=>cases hq<;>cases op<;>first|exact absurd rfl ho.1|exact absurd rfl ho.2|exact .inl jN
   |some ha=>
    cases hq with
    |none=>cases op<;>first|exact absurd rfl ho.1|exact absurd rfl ho.2|exact .inl jN
    |some hb=>
     have two:∀{F F':bD->bD->cP aF},(∀u u' v v',fL R u u'->fL R v v'->aG P S K (VA S K) (F u v) R (F' u' v'))->∀{a1 zmF a2 zlO},fL R a1 zmF->fL R a2 zlO->
      aG P S K (VA S K) (do F (<-behindNumber a1).1 (<-behindNumber a2).1) R (do F' (<-behindNumber zmF).1 (<-behindNumber zlO).1):=by
      intro F F' hF a1 zmF a2 zlO h1 h2;refine aG.bnd (zhA h1) ?_;rintro R1 _ u u' ⟨rfl,hu⟩;refine aG.bnd (zhA h2) ?_;rintro R2 _ v v' ⟨rfl,hv⟩;exact hF _ _ _ _ hu hv
     cases op<;>first|exact absurd rfl ho.1|exact absurd rfl ho.2|exact .inl jN|exact two (λu u' v v' h1 h2=>zBi hR _ h1 h2) ha hb|exact two (λu u' v v' h1 h2=>zCn hR _ h1 h2) ha hb
  |_=>cases op<;>first|exact absurd rfl ho.1|exact absurd rfl ho.2|exact .inl jN|(cases hp<;>exact .inl jN)
 |_=>exact .inl (zCx op t ho aQ aQ aQ aQ aQ)
end
def Ends {α:Type}(r:Result α):Prop:=(∃x w',r=.ok x w')\/∃h w',r=.halt h w'/\Yu h
def Ends.halt {h:Halt}(ht:Yu h):Ends (.halt h w:Result α):=.inr ⟨h,w,rfl,ht⟩
theorem aG.tame {A:Pr->α->β->Prop}{G:Gp}(hG:G=P.gp)(s:cP α):
 ∀{R:Pr} {w W:aE} {s':cP β},aG P S K A s R s'->cV S K R G St w W->Tp w W->Ends (s.run P.g w):=by
 induction s with
 |pure a=>
  rintro R w W s' (hn|⟨b,rfl,h⟩) hw ht
  .exact .inr (hn _ hw.np)
  exact .inl ⟨a,w,rfl⟩
 |load m a k ih=>
  rintro R w W s' (hn|⟨rfl,a',k',rfl,ha,hk⟩) hw ht
  .exact .inr (hn _ hw.np)
  obtain⟨qK⟩:=ha;rename_i b b' o sp;obtain⟨ob,C6,h1,h2,h3⟩:=hw.cont b b' qK
  cases h3 with
  |cells hc hz=>
   rename_i c c' T fz Ix
   cases sp with
   |some sp=>simp only[bK,lN,h1,zF,rB];exact .halt trivial
   |none=>
    cases hv:c[o]? with
    |none=>simp only[bK,lN,h1,zF,rB,hv];exact .halt trivial
    |some v=>
     obtain⟨v',Oc,vX⟩:=hc.get hv;have e1:w.cell? ⟨b,o,none⟩=some v:=by simp[lN,h1,hv]
     rw[bK,e1];exact ih v (hk v v' vX) hw ht
  |_=>simp only[bK,lN,h1,zF,rB];exact .halt trivial
 |store m a v k ih=>
  rintro R w W s' (hn|⟨rfl,a',v',k',rfl,ha,hv,hk⟩) hw ht
  .exact .inr (hn _ hw.np)
  obtain⟨qK⟩:=ha;rename_i b b' o sp;by_cases Tw:∃cs,v=.agg cs
  .obtain⟨cs,rfl⟩:=Tw;rw[bK];exact .halt trivial
  by_cases Gs:∃cs,v=.tuple cs
  .obtain⟨cs,rfl⟩:=Gs;rw[bK];exact .halt trivial
  rw[bK]
  rotate_left
  .simp_all
  .simp_all
  obtain⟨ob,C6,h1,h2,h3⟩:=hw.cont b b' qK
  cases h3 with
  |cells hc hz=>
   rename_i c c' T fz Ix
   cases sp with
   |some sp=>simp only[lN,h1,Dq,rB];exact .halt trivial
   |none=>
    cases gQ:c[o]? with
    |none=>simp only[lN,h1,Dq,rB,gQ];exact .halt trivial
    |some v0=>
     have e1:w.cell? ⟨b,o,none⟩=some v0:=by simp[lN,h1,gQ]
     rw[e1];simp only
     cases nQ:w.frozen? ⟨b,o,none⟩ with
     |true=>exact .halt trivial
     |false=>
      simp only[gK,if_false];have V3:¬Lg fz o:=by
       intro⟨z1,z2⟩;simp[Il,h1,z1,z2] at nQ
      have Ac:¬St b:=by
       intro hs;obtain⟨_,c2,T2,hi,g1,g2⟩:=hw.st b hs;rw[h1] at g1;injection g1 with g1;injection g1 with g1 _ g3;subst g1 g3;exact V3 ⟨mP _,jW (eE.1 gQ).1 g2⟩
      rw[Yf h1];have st:=nC.upd hw qK Ac (oK.cells (T:=T) (hc.set o hv) hz);exact ih hk st.rel (ht.step st)
  |_=>simp only[lN,h1,Dq,rB];exact .halt trivial
 |new o k ih=>
  rintro R w W s' (hn|⟨o',k',rfl,ho,hk⟩) hw ht
  .exact .inr (hn _ hw.np)
  rw[bK];have st:=nC.push hw ho;exact ih _ (hk _ _ ⟨λb hb=>absurd (hw.lt _ _ hb).1 (Jn _),λa ha=>absurd (hw.lt _ _ ha).2 (Jn _),by subst hG;exact hw.gle⟩) st.rel (ht.step st)
 |shape r k ih=>
  rintro R w W s' (hn|⟨r',k',rfl,s7,hk⟩) hw ht
  .exact .inr (hn _ hw.np)
  rw[bK];exact ih _ (hk _) hw ht
 |freeze a n k ih=>
  rintro R w W s' (hn|h) hw ht
  .exact .inr (hn _ hw.np)
  .exact h.elim
 |frozen a k ih=>
  rintro R w W s' (hn|⟨r',k',rfl,hk⟩) hw ht
  .exact .inr (hn _ hw.np)
  rw[bK];exact ih _ (hk _ true) hw ht
 |getObj r k ih=>
  rintro R w W s' (hn|⟨r',k',rfl,s7,hk⟩) hw ht
  .exact .inr (hn _ hw.np)
  rw[bK];rcases hw.orR s7 with x|x
  .obtain⟨ob,C6,h1,h2,h3⟩:=hw.cont r r' x
   rw[h1];have go:Ends ((k ob).run P.g w):=ih ob (hk _ _ h3) hw ht;cases h3<;>first|exact go|exact .halt trivial
  .rw[x];exact .halt trivial
 |setObj r o k ih=>
  rintro R w W s' (hn|⟨r',o',k',rfl,s7,ho,hk⟩) hw ht
  .exact .inr (hn _ hw.np)
  rw[bK];rcases hw.orR s7 with x|x
  .obtain⟨ob,C6,h1,h2,h3⟩:=hw.cont r r' x
   rw[h1];have go:(∀c T fz,ob≠ .cells c T fz)->Ends (k.run P.g {w with heap:=w.heap.setIfInBounds r o}):=λn1=>by
    have Ac:¬St r:=by
     intro hs;obtain⟨_,c2,T2,hi,g1,g2⟩:=hw.st r hs;rw[h1] at g1;injection g1 with g1;exact n1 _ _ _ g1
    have st:=nC.upd hw x Ac ho;exact ih hk st.rel (ht.step st)
   cases h3<;>first|exact go aQ|exact .halt trivial
  .rw[x];exact .halt trivial
 |choose q k ih=>
  rintro R w W s' (hn|⟨k',rfl,hk⟩) hw ht
  .exact .inr (hn _ hw.np)
  rw[bK]
  cases hq:q.forced with
  |true=>
   simp only[if_true];exact ih 0 (hk 0) hw ht
  |false=>
   simp only[gK,if_false];have st:=nC.draw hw;exact ih _ (hk _) st.rel (ht.step st)
 |sys c k ih=>
  rintro R w W s' (hn|h) hw ht
  .exact .inr (hn _ hw.np)
  .exact h.elim
 |program k ih=>
  rintro R w W s' (hn|⟨k',rfl,hk⟩) hw ht
  .exact .inr (hn _ hw.np)
  rw[bK];exact ih _ hk hw ht
 |mark m k ih=>
  rintro R w W s' (hn|⟨rfl,k',rfl,hk⟩) hw ht
  .exact .inr (hn _ hw.np)
  rw[bK];exact ih hk hw ht
 |halt h=>
  rintro R w W s' (hn|hx) hw ht
  .exact .inr (hn _ hw.np)
  .exact hx.elim
end Go.Tt
