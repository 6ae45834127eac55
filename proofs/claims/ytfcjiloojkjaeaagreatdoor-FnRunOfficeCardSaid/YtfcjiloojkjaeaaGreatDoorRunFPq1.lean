/-
  Part 1 of what stands behind the last text.
-/
import Derived.Test.YtfcjiloojkjaeaaGreatDoorRows
import Derived.Lib.SmallJoins
import Derived.WalkSpells
import Derived.WalkLawsBesides
import Derived.BigQuiet
import Derived.Deep.OwnRows
import Derived.Deep.AppendLies
import Derived.Deep.AppendSrc
import Derived.Deep.RegionLaw
import Derived.Lib.ItoaLen
import Derived.Deep.Matrix
import Derived.Deep.RegionHeld3
import Derived.Deep.CutRange
import Derived.Conc.Own
set_option linter.all false
open Array renaming foldl_toList→zvY,getD_eq_getD_getElem?→sZ,getElem?_eq_getElem→pK,getElem?_eq_none_iff→ztY,getElem?_eq_some_iff→dR,getElem?_map→Gq,getElem?_modify→zr4,getElem?_push→zlI,getElem?_push_lt→zyG,getElem?_setIfInBounds_ne→sO,range→N2
open BitVec renaming ofInt→znz
open Bool renaming eq_iff_iff→Ng,false_eq_true→jG
open Go renaming Addr→bC,BinOp→Ob,BoundsCode→zks,Calls→fJ,Ending→Hc,FuncId→aO,IntKind→Cn,MapEntry→pD,Obj→qQ,Oper→aX,Operand→cJ,Program→bT,Sem→dA,TypeDesc→zbD,TypeId→aN,TypeInfo→xO,Value→aF,World→aE,heap_alloc_new→gV,info_parts→C6,run_append_own_at→zq5,yielded→cS
open Go.Addr renaming add→zhH
open Go.Builtin renaming append_→xG,cap_→zjb,clear_→Sc,copy_→Ep,delete_→Lt,firstCells→Rv,holdsCells→ziT,lenOf→zqj,len_→zjD,mayShare→ztC,unsafeAdd_→Oq,zeroCells→qM
open Go.Ending renaming returned→Zw
open Go.Instr renaming alloc→zm1,box→znb,build→zlX,buildSlice→zlt,checkKey→Hn,extract→zkN,fieldAt→zmx,fill→Oc,findAsking→Mb,findKey→Lc,findNow→H7,index→zkE,indexAt→zko,keyThatStays→Qr,loadAt→znM,lookup→Ac,makeChan→zn6,makeInterface→zlz,makeMap→zjU,makeSlice→zmK,mapUpdate→Hp,sameBits→zbB,sameNow→wN,slice→Wz,sliceAt→Wh,sliceBound→La,sliceBounds→Zc,storeAt→zlM,sureAddr→zxW
open Go.Lib renaming decDigits→Zs,itoa→Kj
open Go.Op renaming addrCmp→zkF,addrMod→zjS,addrSub→zjx,equal→Ad,equalIn→D3,intArith→zsS,intBits→zoJ,intDiv→zkg,shift→zn3,stringOp→zjh,twoPlaces→zj2
open Go.Oper renaming wp→C5
open Go.Proofs.Tryz renaming func48→zsb,func62→zeM,ntmps48→zsu,ntmps62→zhJ,prog→aK,underlying57→Kh
open Go.Region renaming wanted→cO
open Go.Result renaming andThen_ok→E9
open Go.RowKit renaming Below→bY
open Go.RowKit.Below renaming heap_alloc→sV,heap_setCell→dU,refl→fK
open Go.Sem renaming events→yZ,run→bK,runT→Ak,run_bind→F7,run_bind'→uG,run_pure→J1
open Go.Value renaming cells→Vx,okWide→zyw,oneCell'→zr1,ownBlock→Kr,tuple→Yp
open Go.World renaming block_lt_of_cell?→zws,cell?→lU,cell?_alloc_lt→zxd,cell?_of_block→Bg,farLoad→zM,farStore→Du,frozen?→Jt,news_of_block→Gl,noCell→rK,setCell→zbc,shape?→zdJ,size_setCell→wR
open Int renaming emod_lt_of_pos→zmo,emod_nonneg→zlC,eq_ofNat_of_zero_le→zuh
open List renaming cons_append→Sd,ext_getElem?→zoC,filter_append→Pp,filter_cons→zq8,flatMap_cons→Pl,getElem?_eq_getElem→nI,getElem?_eq_none→O0,getElem?_eq_some_iff→l8,getElem?_modify→L3,length_append→jZ,length_cons→wL,length_drop→x5,length_filter_le→Y6,length_modify→Lj,length_take→qO,map_cons→jD,map_nil→sC,map_toArray→tJ,mem_iff_getElem→P8,nil_append→zfV,take_add_one→Lr,take_of_length_le→zV
open Nat renaming add_assoc→zat,le_refl→bL,le_trans→eG,lt_irrefl→Jk,lt_of_le_of_lt→zbL,lt_of_lt_of_le→j5,lt_or_ge→rM,lt_succ_self→yB,mod_lt→zrk,mul_le_mul_right→Cf,succ_mul→zmy,zero_add→rL,zero_le→mK
open Option.some renaming injEq→jS
open Pure renaming pure→lR
open UInt8 renaming ofNat→zcL
structure rA (P:Prop):Prop where
 o:P
def aD {P:Prop}(h:P):rA P:=⟨h⟩
set_option maxHeartbeats 16000000
set_option maxRecDepth 100000
def zzO (X:Array aX)(i:Nat):Go.Oper:=X.getD i ⟨none,.nilCheck (.tmp 0),0,"",#[],none⟩
abbrev aM (X:Array aX)(i:Nat)(d:Option Go.Tmp)(o:Go.Op)(g:Option (Nat×Bool):=none):Go.Oper:=⟨d,o,(zzO X i).type,(zzO X i).pos,(zzO X i).after,g⟩
namespace Go
theorem aC{P:Prop}(h:P:=by omega):P:=h
theorem aH{P:Prop}(h:P:=by decide):P:=h
theorem aP{P:Prop}(h:P:=by kernel_rfl):P:=h
theorem aQ{P:Prop}(h:P:=by simp):P:=h
theorem Rz{P:Prop}(h:P:=by intro u hu;simp[bN.cells] at hu;rcases hu with rfl|rfl<;>rfl):P:=h
theorem pX{P:Prop}(h:P:=by simp;omega):P:=h
theorem Oj{P:Prop}(h:P:=by intro u hu;simp at hu;subst hu;rfl):P:=h
theorem uU{P:Prop}(h:P:=by simp_all):P:=h
theorem qJ{P:Prop}(h:P:=by go_num):P:=h
theorem tL{P:Prop}(h:P:=by grind):P:=h
theorem Ih{P:Prop}(h:P:=by simp[Kr];omega):P:=h
theorem Mh{P:Prop}(h:P:=by assumption):P:=h
theorem ztr{P:Prop}(h:P:=by intro k hk aV;have cY:k=0\/k=1\/k=2\/k=3\/k=4\/k=6:=(by omega);rcases cY with rfl|rfl|rfl|rfl|rfl|rfl<;>rfl):P:=h
theorem zqk{P:Prop}(h:P:=by intro k hk aV;have cY:k=0\/k=1\/k=2\/k=3\/k=4\/k=5:=(by omega);rcases cY with rfl|rfl|rfl|rfl|rfl|rfl<;>rfl):P:=h
theorem Mm{P:Prop}(h:P:=by simp only;omega):P:=h
theorem zgq{P:Prop}(h:P:=by rw[hl.o];exact bL _):P:=h
theorem zej{P:Prop}(h:P:=by first|(simp;done)|(simp;omega)):P:=h
theorem Yo{P:Prop}(h:P:=by simpa using h1):P:=h
theorem Xb{P:Prop}(h:P:=by simpa using h2):P:=h
theorem zp1{P:Prop}(h:P:=by unfold wA;rw[zkG HC.o (by rw[hl.o];exact bL _)];rfl):P:=h
theorem My{P:Prop}(h:P:=by rw[bK]):P:=h
theorem Ws{P:Prop}(h:P:=by rw[eU];simp):P:=h
theorem zf8{P:Prop}(h:P:=by have:=t.size;omega):P:=h
theorem zvQ{P:Prop}(h:P:=by first|(simp[Kr];done)|(simp[Kr];omega)):P:=h
theorem zec{P:Prop}(h:P:=by simpa using zwD.o):P:=h
theorem zlu{P:Prop}(h:P:=by first|exact lS|exact bQ):P:=h
theorem zh6{P:Prop}(h:P:=by first|exact bQ|exact lS):P:=h
theorem zdY{P:Prop}(h:P:=by simp;exact aV):P:=h
theorem zg6{P:Prop}(h:P:=by simpa using hb):P:=h
theorem zxt{P:Prop}(h:P:=by simpa using hF 0 _ rfl hf.1 hf.2):P:=h
theorem zhp{P:Prop}(h:P:=by simpa using h):P:=h
end Go
namespace Go
def aT{α:Sort _}(a:α):∃y,y=a:=⟨_,rfl⟩
def zk9{p:Nat->Prop}(k:∀i,p i):p 0/\p 1/\p 2:=⟨k 0,k 1,k 2⟩
def eO{p:Nat->Prop}(k:∀i,p i):p 0/\p 1/\p 2/\p 3/\p 4/\p 5/\p 6/\p 7:=⟨k 0,k 1,k 2,k 3,k 4,k 5,k 6,k 7⟩
end Go
namespace Go.Proofs.YtfcjiloojkjaeaaGreatDoor
open Go.Joins Go.ChangeShapes Go.WideShapes Go.RowKit Go.Deep
def own:ownKnob aK.godebug=none:=aP
def zuK:laidOutB aK=true:=aP
end Go.Proofs.YtfcjiloojkjaeaaGreatDoor
namespace Go.Proofs.YtfcjiloojkjaeaaGreatDoor
open Go.RowKit
def inB (n lo hi:Int):Bool:=decide (lo<=n/\n<=hi)
theorem L6 {a b:Bool}(h:a=b):Zw (.bool a)=.returned (.bool b):=by rw[h]
theorem G3 {k:Cn}{a b:Int}(h:a=b):Zw (.int k a)=.returned (.int k b):=by rw[h]
variable {W:aE}{N:Nat}{o:qQ}
theorem iR (hN:W.heap[N]? =some o):N<W.heap.size:=by
 rcases rM N W.heap.size with h|h
 .exact h
 .rw[Array.getElem?_eq_none h] at hN;cases hN
variable {w1:aE}
def mX (hb:bY W.heap.size W w1)(hN:W.heap[N]? =some o):w1.heap[N]? =some o/\N<w1.heap.size:=
 ⟨(hb.block N (iR hN)).trans hN,j5 (iR hN) hb.size⟩
def dH (hN:W.heap[N]? =some o)(o':qQ):(W.alloc o').heap[N]? =some o:=(sV W o' N (iR hN)).trans hN
variable {w:aE}
def ziX (h:bY w.heap.size w W)(hb:bY W.heap.size W w1):bY w.heap.size w w1:=h.trans (hb.mono h.size)
def eT (h:bY w.heap.size w W)(o:qQ):bY w.heap.size w (W.alloc o):=h.alloc h.size o
variable {cs:Array aF}{T:aN}{fz:Nat×Nat}
def aI (h:w.heap[N]? =some (.cells cs T fz))(o:Nat):w.cell? ⟨N,o,none⟩=cs[o]? :=cell_of_row w N o cs T fz h
theorem zoM (n lo hi:Int)(w:aE):
 fJ aK 49 #[.int .i64 n,.int .i64 lo,.int .i64 hi] w λe w'=>e=.returned (.bool (inB n lo hi))/\w'=w:=by
 go_enter Tryz.func49,Tryz.ntmps49
 go_wp2
 all_goals go_ret
 all_goals exact⟨L6 (by simp[inB];omega),rfl⟩
structure cE (w:aE)(lo hi s:Nat)(A:Option bC)(n c:Nat)(xs:List aF):Prop where
 len:xs.length=n*s
 le:n<=c
 cap:c<=maxLen
 at_:0<n->∃b off,A=some ⟨b,off,none⟩/\lo<=b/\b<hi/\b<w.heap.size/\∀j v,xs[j]? =some v->w.cell? ⟨b,off+j,none⟩=some v
variable {w':aE}{lo hi s n c:Nat}{A:Option bC}{xs:List aF}
theorem cE.keep (h:cE w lo hi s A n c xs)(hs:w.heap.size<=w'.heap.size)(k:∀b,lo<=b->b<hi->b<w.heap.size->w'.heap[b]? =w.heap[b]?):cE w' lo hi s A n c xs:=
 ⟨h.len,h.le,h.cap,λhn=>by
  obtain⟨b,off,e,h1,h2,h3,h4⟩:=h.at_ hn;exact⟨b,off,e,h1,h2,j5 h3 hs,λj v hv=>(Bg (k b h1 h2 h3)).trans (h4 j v hv)⟩⟩
def cE.below (h:cE w lo hi s A n c xs)(hb:bY w.heap.size w w'):cE w' lo hi s A n c xs:=
 h.keep hb.size λb _ _ h3=>hb.block b h3
def cE.alloc (h:cE w lo hi s A n c xs)(o:qQ):cE (w.alloc o) lo hi s A n c xs:=
 h.keep aQ λb _ _ h3=>sV w o b h3
theorem cE.wide {xK kN:Nat}(h:cE w lo hi s A n c xs)(h1:xK<=lo)(h2:hi<=kN):cE w xK kN s A n c xs:=
 ⟨h.len,h.le,h.cap,λhn=>by obtain⟨b,off,e,k1,k2,k3,k4⟩:=h.at_ hn;exact⟨b,off,e,aC,aC,k3,k4⟩⟩
def jY (xs:List Int):List Value:=xs.map (aF.int .i64)
variable {k:Nat}{xs:List Int}
theorem zBo (h:k<xs.length):(jY xs)[k]? =some (.int .i64 xs[k]):=by simp[jY,h]
theorem cE.cellAt (h:cE w lo hi 1 A n c (jY xs))(hk:k<n):∃b off v,A=some ⟨b,off,none⟩/\lo<=b/\b<hi/\b<w.heap.size/\xs[k]? =some v/\w.cell? ⟨b,off+k,none⟩=some (.int .i64 v):=by
 obtain⟨b,off,e,h1,h2,h3,h4⟩:=h.at_ aC;have hl:k<xs.length:=by have:=h.len;simp[jY] at this;omega
 exact⟨b,off,xs[k],e,h1,h2,h3,nI hl,h4 k _ (zBo hl)⟩
theorem cE.length (h:cE w lo hi 1 A n c (jY xs)):xs.length=n:=by have:=h.len;simp[jY] at this;exact this
def zGH:(aK.info? 3).map (λi=>(i.zero,i.size,i.bytes))=some (some (.int .i64 0),1,8):=aP
theorem eW (h:w.heap[N]? =some (.cells cs T))(o:Nat):w.frozen? ⟨N,o,none⟩=false:=by simp[Jt,h]
theorem oQ {g i:Nat}(h:w.heap[g]? =some (.cells cs T fz))(v:aF):(w.setCell ⟨g,i,none⟩ v).heap[g]? =some (.cells (cs.setIfInBounds i v) T fz):=by
 simp[zbc,zr4,h]
def SaysB (w:aE)(t:Bool)(e:Hc)(w':aE):Prop:=e=.returned (.bool t)/\∃m,w'=w.drewN m
structure Chg (lo hi:Nat)(w w':aE):Prop where
 os:w'.os=w.os
 tape:w'.tape=w.tape
 output:w'.output=w.output
 size:w.heap.size<=w'.heap.size
 block:∀i,i<w.heap.size->¬(lo<=i/\i<hi)->w'.heap[i]? =w.heap[i]?
def Chg.refl (lo hi:Nat)(w:aE):Chg lo hi w w:=⟨rfl,rfl,rfl,bL _,λ_ _ _=>rfl⟩
theorem Chg.setCell {a b:aE}(h:Chg lo hi a b){p:bC}(h1:lo<=p.block)(h2:p.block<hi)(v:aF):Chg lo hi a (b.setCell p v):=
 ⟨h.os,h.tape,h.output,by simpa[zbc] using h.size,λi hi aV=>(dU b p v i aC).trans (h.block i hi aV)⟩
structure Own (w:aE)(lo hi:Nat)(A:Option bC)(n c:Nat)(xs:List Int):Prop where
 slc:cE w lo hi 1 A n c (jY xs)
 blk:0<n->∃b cs,A=some ⟨b,0,none⟩/\w.heap[b]? =some (.cells cs 3)/\n<=cs.size
structure Bf (E s:Nat)(w:aE)(lo hi:Nat)(A:Option bC)(n c:Nat)(xs:List aF):Prop where
 slc:cE w lo hi s A n c xs
 blk:0<n->∃b cs,A=some ⟨b,0,none⟩/\w.heap[b]? =some (.cells cs E)/\n*s<=cs.size
section
variable {E s:Nat}{w w':aE}{lo hi n c:Nat}{A:Option bC}{xs:List aF}
theorem Bf.keep (h:Bf E s w lo hi A n c xs)(hs:w.heap.size<=w'.heap.size)(k:∀b,lo<=b->b<hi->b<w.heap.size->w'.heap[b]? =w.heap[b]?):Bf E s w' lo hi A n c xs:=
 ⟨h.slc.keep hs k,λhn=>by
  obtain⟨b,cs,e,hb,hc⟩:=h.blk hn;obtain⟨b',off,e',h1,h2,h3,_⟩:=h.slc.at_ hn;rw[e] at e';injection e' with e';injection e' with e1 e2 e3;subst e1;exact⟨b,cs,e,(k b h1 h2 h3).trans hb,hc⟩⟩
def Bf.wide {xK kN:Nat}(h:Bf E s w lo hi A n c xs)(h1:xK<=lo)(h2:hi<=kN):Bf E s w xK kN A n c xs:=⟨h.slc.wide h1 h2,h.blk⟩
theorem zdT {base:Nat}{v:aF}(h:w.ownsRow base E s v n xs)(hs:0<s):∃A c,v=.slice A n c/\Bf E s w base w.heap.size A n c xs:=by
 obtain⟨hl,h|⟨g,cap,cur,rfl,hb,hg,hn,hc,cK,ht⟩⟩:=h
 .obtain⟨rfl,rfl⟩:=h
  exact⟨none,0,rfl,⟨⟨hl,bL _,mK _,λh=>absurd h aC⟩,λh=>absurd h aC⟩⟩
 .refine⟨_,cap,rfl,⟨⟨hl,hn,hc,λh0=>⟨g,0,rfl,hb,iR hg,iR hg,λj v hv=>?_⟩⟩,λh0=>⟨g,cur,rfl,hg,by rw[cK];exact Cf _ hn⟩⟩⟩
  rw[rL,aI hg];rw[<-ht] at hv;have hj:j<n*s:=by
   rcases rM j (n*s) with h|h
   .exact h
   .rw[O0 (by rw[qO];omega)] at hv;cases hv
  rw[List.getElem?_take_of_lt hj] at hv;simpa using hv
theorem cE.cells (h:cE w lo hi s A n c xs){k:Nat}(hk:k<n):∃b off,A=some ⟨b,off,none⟩/\lo<=b/\b<hi/\b<w.heap.size/\∀f v,xs[k*s+f]? =some v->w.cell? ⟨b,off+(k*s+f),none⟩=some v:=by
 obtain⟨b,off,e,h1,h2,h3,h4⟩:=h.at_ aC;exact⟨b,off,e,h1,h2,h3,λf v hv=>h4 _ v hv⟩
end
variable {α:Type}
theorem Ox (f:α->List aF)(hf:∀a,(f a).length=s):∀(l:List α) (k i:Nat),i<s->(l.flatMap f)[k*s+i]? =(l[k]?).bind λa=>(f a)[i]?
 |[],k,i,_=>by simp
 |a::l,0,i,hi=>by
  rw[Pl,Nat.zero_mul,rL,List.getElem?_append_left (by rw[hf];exact hi)];rfl
 |a::l,k+1,i,hi=>by
  rw[Pl,List.getElem?_append_right (by rw[hf,zmy];omega),hf,show(k+1)*s+i-s=k*s+i by rw[zmy];omega,Ox f hf l k i hi];rfl
theorem J2 (f:α->List aF)(hf:∀a,(f a).length=s)(l:List α):(l.flatMap f).length=l.length*s:=by
 induction l with
 |nil=>simp
 |cons a l ih=>rw[Pl,jZ,ih,hf,wL,zmy];omega
variable {xs:List aF}{E:Nat}{v:aF}
theorem zyB {W':aE}{base n:Nat}{w0:aE}(h:w0.ownsRow base E s v n xs)(g:W.grownBy W' v.ownBlock)(hb:base<=W.heap.size):bY base W W':=
 ⟨g.os,g.tape,g.output,g.size,λi hi=>g.block i aC (by
  obtain⟨_,h|⟨b,cap,cur,rfl,h1,_⟩⟩:=h
  .rw[h.1];simp[Kr]
  .simp[Kr];omega)⟩
theorem zjL {base n:Nat}(h:w.ownsRow base E s v n xs)(hv:¬v=.slice none 0 0):∃g c,v=.slice (some ⟨g,0,none⟩) n c:=by
 obtain⟨_,h|⟨b,cap,cur,rfl,h1,_⟩⟩:=h
 .exact absurd h.1 hv
 .exact⟨b,cap,rfl⟩
def Qm {base g:Nat}(hb:base<=g)(hg:w.heap[g]? =some (.cells #[] E)):w.ownsRow base E s (.slice (some ⟨g,0,none⟩) 0 0) 0 []:=
 ⟨aQ,.inr ⟨g,0,#[],rfl,hb,hg,bL _,mK _,aQ,aQ⟩⟩
theorem Bn {base n:Nat}(h:w.ownsRow base E s v n xs)(hb:∀b,b<w.heap.size->w'.heap[b]? =w.heap[b]?):w'.ownsRow base E s v n xs:=by
 obtain⟨hl,h|⟨g,cap,cur,rfl,h1,hg,h2⟩⟩:=h
 .exact⟨hl,.inl h⟩
 .exact⟨hl,.inr ⟨g,cap,cur,rfl,h1,(hb g (iR hg)).trans hg,h2⟩⟩
def zwa {base n:Nat}(h:w.ownsRow base E s v n xs)(hb:bY w.heap.size w w'):w'.ownsRow base E s v n xs:=Bn h λb h=>hb.block b h
def Mo (h:w.heap[N]? =some o):w.drew.heap[N]? =some o:=h
def zbm {a:aE}{B:Nat}(h:bY B a w):bY B a w.drew:=⟨h.os,h.tape,h.output,h.size,h.block⟩
theorem mH (w:aE)(o:qQ){b:Nat}(hb:b=w.heap.size):(w.alloc o).heap[b]? =some o:=by subst hb;exact gV w o
section
variable {P:bT}(w:aE)
theorem zj9 (t ty:aN)(base:Nat)(e:aN)(i:xO)(z:aF)(size bytes:Nat)(ht:P.underlying t=some (.slice e))(hi:P.info? e=some i)(hz:i.zero=some z)
 (xN:i.size=size) (vK:i.bytes=bytes) (hzs:z.cells.size=size) (cK:0<size)
 (v:aF) (n:Nat) (xs:List aF) (dF:w.ownsRow base e size v n xs) (hv:¬v=.slice none 0 0)
 (ad:bC) (m c:Nat) (news:List aF) (hl:news.length=m*size) (Fq:∀j u,news[j]? =some u->w.cell? (ad.add j)=some u) (h1:∀u∈news,u.oneCell'=true)
 (xP:n+m<=maxLen) (xV:(n+m)*bytes<=140737488355328) (sS:base<=w.heap.size):
 ∃g cap w',(xG #[t,t] ty #[v,.slice (some ad) m c]).run P w=.ok (.slice (some ⟨g,0,none⟩) (n+m) cap) w'/\
  w'.ownsRow base e size (.slice (some ⟨g,0,none⟩) (n+m) cap) (n+m) (xs++news)/\w.grownBy w' v.ownBlock/\bY base w w':=by
 obtain⟨v',w',hr,h2,h3,h4,h5⟩:=zq5 (P:=P) w base t ty e i z size bytes ht hi hz xN vK hzs cK v n xs dF ad m c news hl Fq h1 xP xV sS;obtain⟨g,cap,rfl⟩:=zjL h2 (λh=>hv (h4.1 h).1);exact⟨g,cap,w',hr,h2,h3,zyB dF h3 sS⟩
variable {o:aX}{a:Act}
theorem zsf {K:Act->aE->Prop}{Q:Exit->Act->aE->Prop}(s x:cJ)(t:aN)
 (ho:o.op=.call {callee:=.builtin .append,args:=#[s,x],argTypes:=#[t,t]})
 (base:Nat) (e:aN) (i:xO) (z:aF) (size bytes:Nat) (ht:P.underlying t=some (.slice e)) (hi:P.info? e=some i) (hz:i.zero=some z)
 (xN:i.size=size) (vK:i.bytes=bytes) (hzs:z.cells.size=size) (cK:0<size)
 (v:aF) (n:Nat) (xs:List aF) (hs:a.eval s=v) (dF:w.ownsRow base e size v n xs) (hv:¬v=.slice none 0 0)
 (ad:bC) (m c:Nat) (news:List aF) (hx:a.eval x=.slice (some ad) m c) (hl:news.length=m*size) (Fq:∀j u,news[j]? =some u->w.cell? (ad.add j)=some u) (h1:∀u∈news,u.oneCell'=true)
 (xP:n+m<=maxLen) (xV:(n+m)*bytes<=140737488355328) (sS:base<=w.heap.size)
 (h:∀g cap w',w'.ownsRow base e size (.slice (some ⟨g,0,none⟩) (n+m) cap) (n+m) (xs++news)->w.grownBy w' v.ownBlock->bY base w w'->K (a.put o.dst (.slice (some ⟨g,0,none⟩) (n+m) cap)) w'):o.wp P a w K Q:=by
 obtain⟨g,cap,w',hr,h2,h3,h4⟩:=zj9 (P:=P) w t o.type base e i z size bytes ht hi hz xN vK hzs cK v n xs dF hv ad m c news hl Fq h1 xP xV sS;unfold C5 execOp;simp only[ho,resolve,invoke,builtin,F7,J1,E9,tJ,jD,sC,hs,hx,hr];exact h g cap w' h2 h3 h4
variable {ops:Array aX}
def zpi {rest:List aX}{Q:Exit->Act->aE->Prop}(Fy:o.guard=none)(s x:cJ)(t:aN)
 (ho:o.op=.call {callee:=.builtin .append,args:=#[s,x],argTypes:=#[t,t]})
 (base:Nat) (e:aN) (i:xO) (z:aF) (size bytes:Nat) (ht:P.underlying t=some (.slice e)) (hi:P.info? e=some i) (hz:i.zero=some z)
 (xN:i.size=size) (vK:i.bytes=bytes) (hzs:z.cells.size=size) (cK:0<size)
 (v:aF) (n:Nat) (xs:List aF) (hs:a.eval s=v) (dF:w.ownsRow base e size v n xs) (hv:¬v=.slice none 0 0)
 (ad:bC) (m c:Nat) (news:List aF) (hx:a.eval x=.slice (some ad) m c) (hl:news.length=m*size) (Fq:∀j u,news[j]? =some u->w.cell? (ad.add j)=some u) (h1:∀u∈news,u.oneCell'=true)
 (xP:n+m<=maxLen) (xV:(n+m)*bytes<=140737488355328) (sS:base<=w.heap.size)
 (h:∀g cap w',w'.ownsRow base e size (.slice (some ⟨g,0,none⟩) (n+m) cap) (n+m) (xs++news)->w.grownBy w' v.ownBlock->bY base w w'->wpList P ops Q rest (a.put o.dst (.slice (some ⟨g,0,none⟩) (n+m) cap)) w'):wpList P ops Q (o::rest) a w:=
 wpList_plain Fy λ_ hK=>zsf w s x t ho base e i z size bytes ht hi hz xN vK hzs cK v n xs hs dF hv ad m c news hx hl Fq h1 xP xV sS λg cap w' h2 h3 h4=>hK _ _ (h g cap w' h2 h3 h4)
theorem zt5 {K:Act->aE->Prop}{Q:Exit->Act->aE->Prop}{EE:Prop}(Fy:o.guard=none)(s x:cJ)(t:aN)
 (ho:o.op=.call {callee:=.builtin .append,args:=#[s,x],argTypes:=#[t,t]})
 (base:Nat) (e:aN) (i:xO) (z:aF) (size bytes:Nat) (ht:P.underlying t=some (.slice e)) (hi:P.info? e=some i) (hz:i.zero=some z)
 (xN:i.size=size) (vK:i.bytes=bytes) (hzs:z.cells.size=size) (cK:0<size)
 (v:aF) (n:Nat) (xs:List aF) (hs:a.eval s=v) (dF:w.ownsRow base e size v n xs) (hv:¬v=.slice none 0 0)
 (ad:bC) (m c:Nat) (news:List aF) (hx:a.eval x=.slice (some ad) m c) (hl:news.length=m*size) (Fq:∀j u,news[j]? =some u->w.cell? (ad.add j)=some u) (h1:∀u∈news,u.oneCell'=true)
 (xP:n+m<=maxLen) (xV:(n+m)*bytes<=140737488355328) (sS:base<=w.heap.size)
 (h:∀g cap w',w'.ownsRow base e size (.slice (some ⟨g,0,none⟩) (n+m) cap) (n+m) (xs++news)->w.grownBy w' v.ownBlock->bY base w w'->K (a.put o.dst (.slice (some ⟨g,0,none⟩) (n+m) cap)) w'):
 if cO o (cS ops a.tmps)=true then C5 P o a w K Q else EE:=by
 have hw:cO o (cS ops a.tmps)=true:=by simp[cO,Fy]
 rw[if_pos hw];exact zsf w s x t ho base e i z size bytes ht hi hz xN vK hzs cK v n xs hs dF hv ad m c news hx hl Fq h1 xP xV sS h
end
theorem zrE (xs:List Int):∀u∈jY xs,u.oneCell'=true:=by
 intro u hu;obtain⟨x,_,rfl⟩:=List.mem_map.1 hu;rfl
theorem Be {base n c:Nat}(h:w.ownsRow base E s (.slice A n c) n xs)(hs:0<s):cE w base w.heap.size s A n c xs:=by
 obtain⟨A',c',e,o⟩:=zdT h hs;injection e with e1 e2 e3;subst e1 e3;exact o.slc
theorem Oy (a b:Array UInt8):(⟨a⟩:ByteArray)++⟨b⟩=⟨a++b⟩:=by
 apply ByteArray.ext;simp[ByteArray.data_append]
theorem Vh (hk:k<=100000000):(Zs k).length<=20:=by
 rw[Lib.decDigits_length];exact Lib.nDigits_le20 k aC
theorem cv1 (w:aE)(x:Nat)(hx:x<=255):(convert 42 9 (.slice (some ⟨w.heap.size,0,none⟩) 1 1)).run aK (w.alloc (.cells #[.int .u8 (x:Int)] 5))=.ok (.string ⟨[zcL x].toArray⟩) (w.alloc (.cells #[.int .u8 (x:Int)] 5)):=
 run_convert_bytes_back (P:=aK) _ 42 9 5 ⟨w.heap.size,0,none⟩ 1 [zcL x] Tryz.underlying42 Tryz.underlying5 Tryz.underlying9 (λj hj=>by
  obtain rfl:j=0:=by simp at hj;omega
  simp[zhH];omega)
end Go.Proofs.YtfcjiloojkjaeaaGreatDoor
namespace Go.Proofs.YtfcjiloojkjaeaaGreatDoor
open Go.Joins Go.ChangeShapes Go.WideShapes Go.RowKit Go.Deep
section
variable {H:Type}{enc:aN×aF->H}{P:bT}{w:aE}{base:Nat}{held:Bool}
theorem add_plain (b off j:Nat):(bC.mk b off none).add j=⟨b,off+j,none⟩:=by unfold zhH;split<;>simp_all
end
end Go.Proofs.YtfcjiloojkjaeaaGreatDoor
namespace Go.Proofs.YtfcjiloojkjaeaaGreatDoor
open Go.RowKit
variable {w:aE}
theorem zbM (a:bC)(v:aF):w.grownBy (w.setCell a v) (some a.block):=
 ⟨rfl,rfl,rfl,by simp[zbc],λi hi aV=>dU w a v i (λe=>aV (by rw[e]))⟩
variable {a:aE}{row:Option Nat}
def zCQ (h:a.grownBy w row)(n:Nat):a.grownBy (w.drewN n) row:=⟨h.os,h.tape,h.output,h.size,h.block⟩
def zkm {b c:aE}(h:a.grownBy b row)(k:b.grownBy c row):a.grownBy c row:=
 ⟨k.os.trans h.os,k.tape.trans h.tape,k.output.trans h.output,eG h.size k.size,λi hi aV=>(k.block i (j5 hi h.size) aV).trans (h.block i hi aV)⟩
def zE1 (h:bY a.heap.size a w)(row:Option Nat):a.grownBy w row:=⟨h.os,h.tape,h.output,h.size,λi hi _=>h.block i hi⟩
variable {g:Nat}
def zFC {B:Nat}(h:a.grownBy w (some g))(hB:B<=g)(hg:B<=a.heap.size):bY B a w:=
 ⟨h.os,h.tape,h.output,h.size,λi hi=>h.block i (j5 hi hg) pX⟩
structure zcf (w:aE)(g:Nat)(A:Option bC)(n:Nat):Prop where
 le:n<=2000
 at_:0<n->∃b off,A=some ⟨b,off,none⟩/\b<g/\∀j,j<n->∃v:Int,w.cell? ⟨b,off+j,none⟩=some (.int .u8 v)/\0<=v/\v<=255
variable {w':aE}{n:Nat}{A:Option bC}
theorem zcf.keep (h:zcf w g A n)(k:∀b,b<g->w'.heap[b]? =w.heap[b]?):zcf w' g A n:=
 ⟨h.le,λhn=>by
  obtain⟨b,off,e,hb,hj⟩:=h.at_ hn;refine⟨b,off,e,hb,λj Ru=>?_⟩;obtain⟨v,hv,h0⟩:=hj j Ru;exact⟨v,(Bg (k b hb)).trans hv,h0⟩⟩
structure RdX (w:aE)(g:Nat)(A:Option bC)(n c p:Nat):Prop where
 blk:w.heap[g]? =some (.cells #[.slice A n c,.int .i64 (p:Int)] 105)
 bytes:zcf w g A n
 lt:p<1000000000
def O8 (w:aE)(g:Nat)(A:Option bC)(n c p d:Nat)(K:Int->Prop)(e:Hc)(w':aE):Prop:=
 ∃r:Int,e=.returned (.int .i64 r)/\K r/\w'.heap[g]? =some (.cells #[.slice A n c,.int .i64 ((p+d:Nat):Int)] 105)/\w.grownBy w' (some g)
theorem zC6 (g p n c:Nat)(A:Option bC)(m:Int)(w:aE)(h:RdX w g A n c p)(hm:m<1\/n=0):
 fJ aK 62 #[.pointer (some ⟨g,0,none⟩),.int .i64 m] w (O8 w g A n c p 1 λr=>r=0):=by
 have hc:=aI h.blk;have hf:∀o,w.frozen? ⟨g,o,none⟩=false:=λo=>by simp[Jt,h.blk]
 have hp:=h.lt;have hb:=h.blk;have hn:=h.bytes.le;have HB:=aD hb;clear h hb;by_cases Yd:m<1
 .clear hm
  go_enter zeM,zhJ
  go_wp2;go_ret;exact⟨0,rfl,rfl,(oQ HB.o _).trans aQ,zbM _ _⟩
 .have zbZ:n=0:=by rcases hm with h|h;exact absurd h Yd;exact h
  subst zbZ;clear hm
  go_enter zeM,zhJ
  go_wp2;go_ret;exact⟨0,rfl,rfl,(oQ HB.o _).trans aQ,zbM _ _⟩
theorem zBh (g p n c:Nat)(A:Option bC)(m:Int)(w:aE)(h:RdX w g A n c p)(hm:1<=m)(xA:m<=1000000)(Wp:p<n):
 fJ aK 62 #[.pointer (some ⟨g,0,none⟩),.int .i64 m] w (O8 w g A n c p 1 λr=>0<=r/\r<m):=by
 have hc:=aI h.blk;have hf:∀o,w.frozen? ⟨g,o,none⟩=false:=λo=>by simp[Jt,h.blk]
 have hp:=h.lt;have hb:=h.blk;have hn:=h.bytes.le;have HB:=aD hb;obtain⟨b,off,rfl,lQ,hj⟩:=h.bytes.at_ aC;obtain⟨v,hv,v0,v1⟩:=hj p Wp;have zbZ:((n:Int)==0)=false:=pX;have zfb:(m==0)=false:=pX;clear h hb hj
 go_enter zeM,zhJ
 go_wp2;go_ret;exact⟨_,rfl,⟨zlC _ aC,zmo _ aC⟩,(oQ HB.o _).trans aQ,zbM _ _⟩
theorem zFR (x y:Int)(hx:0<=x)(zW:x<9223372036854775808)(hy:0<=y)(zJW:y<9223372036854775808):0<=bits .xor .i64 x y:=by
 obtain⟨a,rfl⟩:=zuh hx;obtain⟨b,rfl⟩:=zuh hy;have ha:a<9223372036854775808:=aC;have hb:b<9223372036854775808:=aC;have e:∀z:Nat,z<9223372036854775808->(znz 64 (z:Int)).toNat=z:=λz hz=>by
  rw[BitVec.ofInt_natCast,BitVec.toNat_ofNat];exact Nat.mod_eq_of_lt aC
 have aU:a^^^b<2^63:=Nat.xor_lt_two_pow aC aC;show 0<=Cn.i64.wrap ((znz 64 (a:Int)^^^znz 64 (b:Int)).toNat:Int);rw[BitVec.toNat_xor,e a ha,e b hb,Cn.wrap_i64];omega
theorem zDC (g p n c:Nat)(A:Option bC)(m:Int)(w:aE)(h:RdX w g A n c p)(hm:1<=m)(xA:m<=1000000)(Wp:¬p<n)(h0:0<n):
 fJ aK 62 #[.pointer (some ⟨g,0,none⟩),.int .i64 m] w (O8 w g A n c p 1 λr=>0<=r/\r<m):=by
 have hc:=aI h.blk;have hf:∀o,w.frozen? ⟨g,o,none⟩=false:=λo=>by simp[Jt,h.blk]
 have hp:=h.lt;have hb:=h.blk;have hn:=h.bytes.le;have HB:=aD hb;obtain⟨b,off,rfl,lQ,hj⟩:=h.bytes.at_ h0;have zfq:(0:Int)<n:=aC;have i1:(0:Int)<=(p:Int)%n:=zlC _ aC;have i2:(p:Int)%n<n:=zmo _ zfq;have i3:(0:Int)<=((p:Int)*7+3)%n:=zlC _ aC;have i4:((p:Int)*7+3)%n<n:=zmo _ zfq;have q0:(0:Int)<=(p:Int)/n:=Int.ediv_nonneg aC aC;have q1:(p:Int)/n<=1000000000:=Int.le_trans (Int.ediv_le_self _ aC) aC;obtain⟨v,hv,v0,v1⟩:=hj (p%n) (zrk _ h0);obtain⟨u,hu,u0,u1⟩:=hj ((p*7+3)%n) (zrk _ h0);have zbZ:((n:Int)==0)=false:=pX;have zfb:(m==0)=false:=pX;clear h hb hj
 go_enter zeM,zhJ
 go_wp2
 go_quiet (fail)
 go_wp2;go_ret;have hx:=zFR (v*131+u*1117+↑p*29+↑p/↑n*53) ((v*131+u*1117+↑p*29+↑p/↑n*53)/64) aC aC aC aC;exact⟨_,rfl,⟨Int.tmod_nonneg _ hx,Int.tmod_lt_of_pos _ aC⟩,(oQ HB.o _).trans aQ,zCQ (zbM _ _) _⟩
variable {c:Nat}{K:Int->Prop}{e:Hc}
def O8.mono {p d:Nat}{K':Int->Prop}(h:O8 w g A n c p d K e w')(hk:∀r,K r->K' r):O8 w g A n c p d K' e w':=
 let⟨r,he,hr,hb,hg⟩:=h;⟨r,he,hk r hr,hb,hg⟩
theorem zBi (g p n c:Nat)(A:Option bC)(m:Int)(w:aE)(h:RdX w g A n c p)(hm:1<=m)(xA:m<=1000000):
 fJ aK 62 #[.pointer (some ⟨g,0,none⟩),.int .i64 m] w (O8 w g A n c p 1 λr=>0<=r/\r<m):=by
 by_cases h0:n=0
 .exact(zC6 g p n c A m w h (.inr h0)).mono λ_ _ hd=>hd.mono λr hr=>by omega
 .by_cases hp:p<n
  .exact zBh g p n c A m w h hm xA hp
  .exact zDC g p n c A m w h hm xA hp aC
def RdX.next {p d:Nat}(h:RdX w g A n c p)(hb:w'.heap[g]? =some (.cells #[.slice A n c,.int .i64 ((p+d:Nat):Int)] 105))(hg:w.grownBy w' (some g))(hp:p+d<1000000000):RdX w' g A n c (p+d):=
 ⟨hb,h.bytes.keep λb hl=>hg.block b (Nat.lt_trans hl (iR h.blk)) pX,hp⟩
def zyk {b o:Nat}(h:w.grownBy w' (some g))(hb:b<w.heap.size)(aV:b≠g):w'.cell? ⟨b,o,none⟩=w.cell? ⟨b,o,none⟩:=
 Bg (h.block b hb zdY)
def Yq (h:a.grownBy w row)(o:qQ):a.grownBy (w.alloc o) row:=
 ⟨h.os,h.tape,h.output,eG h.size aQ,λi hi aV=>(sV w o i (j5 hi h.size)).trans (h.block i hi aV)⟩
variable {N:Nat}
def ze0 {W w1:aE}{o:qQ}(hb:W.grownBy w1 (some g))(hN:W.heap[N]? =some o)(aV:N≠g):w1.heap[N]? =some o/\N<w1.heap.size:=
 ⟨(hb.block N (iR hN) zdY).trans hN,j5 (iR hN) hb.size⟩
def Rd (w:aE)(g:Nat)(A:Option bC)(n c q:Nat):Prop:=∃p,p<=q/\RdX w g A n c p
variable {q:Nat}
def Rd.mono {q':Nat}(h:Rd w g A n c q)(hq:q<=q'):Rd w g A n c q':=let⟨p,hp,hx⟩:=h;⟨p,aC,hx⟩
def Rd.keep (h:Rd w g A n c q)(k:∀b,b<=g->w'.heap[b]? =w.heap[b]?):Rd w' g A n c q:=
 let⟨p,hp,hx⟩:=h;⟨p,hp,(k g (bL _)).trans hx.blk,hx.bytes.keep λb hb=>k b aC,hx.lt⟩
def Rd.gblt (h:Rd w g A n c q):g<w.heap.size:=let⟨_,_,hx⟩:=h;iR hx.blk
def Rd.alloc (h:Rd w g A n c q)(o:qQ):Rd (w.alloc o) g A n c q:=
 h.keep λb hb=>sV w o b (zbL hb h.gblt)
def Rd.setCell (h:Rd w g A n c q){a:bC}(ha:g<a.block)(v:aF):Rd (w.setCell a v) g A n c q:=
 h.keep λb hb=>dU w a v b aC
def Rd.below (h:Rd w g A n c q)(hb:bY w.heap.size w w'):Rd w' g A n c q:=
 h.keep λb hl=>hb.block b (zbL hl h.gblt)
theorem zr9 (h:a.grownBy w row){p:bC}(hp:a.heap.size<=p.block)(v:aF):a.grownBy (w.setCell p v) row:=
 ⟨h.os,h.tape,h.output,by simpa[zbc] using h.size,λi hi aV=>(dU w p v i aC).trans (h.block i hi aV)⟩
variable {cs:Array aF}{T:aN}
theorem qX (h:w.heap[N]? =some (.cells cs T))(o:Nat):w.frozen? ⟨N,o,none⟩=false:=by simp[Jt,h]
def Got (w:aE)(g:Nat)(A:Option bC)(n c q:Nat)(K:Int->Prop)(e:Hc)(w':aE):Prop:=
 ∃r:Int,e=.returned (.int .i64 r)/\K r/\Rd w' g A n c q/\w.grownBy w' (some g)
theorem got_of {p:Nat}(hx:RdX w g A n c p)(hp:p<=q)(hq:q+1<1000000000)(h:O8 w g A n c p 1 K e w'):Got w g A n c (q+1) K e w':=by
 obtain⟨r,he,hr,hb,hg⟩:=h;exact⟨r,he,hr,⟨p+1,aC,hx.next hb hg aC⟩,hg⟩
theorem Dn (g q n c:Nat)(A:Option bC)(m:Int)(w:aE)(h:Rd w g A n c q)(hq:q+1<1000000000)(hm:1<=m)(xA:m<=1000000):
 fJ aK 62 #[.pointer (some ⟨g,0,none⟩),.int .i64 m] w (Got w g A n c (q+1) λr=>0<=r/\r<m):=by
 obtain⟨p,hp,hx⟩:=h;exact(zBi g p n c A m w hx hm xA).mono λ_ _ hd=>got_of hx hp hq hd
theorem Vf (g q n c l lo k kc:Nat)(A:Option bC)(w:aE)(h:Rd w g A n c q)(hq:q+1<1000000000)(hk:0<k)(qZ:k<=1000000)(hl:l<w.heap.size)(zbY:l≠g)
 (hc:∀j,j<k->∃v:Int,w.cell? ⟨l,lo+j,none⟩=some (.int .i64 v)):
 fJ aK 88 #[.pointer (some ⟨g,0,none⟩),.slice (some ⟨l,lo,none⟩) k kc] w (Got w g A n c (q+1) λ_=>True):=by
 have H:=aD hc;clear hc
 go_enter Tryz.func88,Tryz.ntmps88
 go_wp2_with fail
 refine(Dn g q n c A _ _ h hq aC aC).mono ?_;rintro e w1 ⟨r,rfl,⟨r0,r1⟩,hr,hg⟩;obtain⟨v,hv⟩:=H.o r.toNat aC;have qF:=(zyk hg hl zbY).trans hv;clear hv;go_wp2;go_ret;exact⟨v,rfl,trivial,hr,hg⟩
theorem zDF {l:Nat}{fz:Nat×Nat}(h:w.heap[l]? =some (.cells cs T fz))(k:Nat)(hk:∀j,j<k->∃v:Int,cs[j]? =some (.int .i64 v)):
 ∀j,j<k->∃v:Int,w.cell? ⟨l,0+j,none⟩=some (.int .i64 v):=λj hj=>by
 obtain⟨v,hv⟩:=hk j hj;exact⟨v,by rw[rL,aI h,hv]⟩
structure Code (w:aE)(A:Option bC)(n c:Nat):Prop where
 le:n<=c
 cap:c<=maxLen
 at_:0<n->∃b off,A=some ⟨b,off,none⟩/\b<w.heap.size/\∀j,j<n->∃v:Int,w.cell? ⟨b,off+j,none⟩=some (.int .u8 v)/\0<=v/\v<=255
def Opened (w:aE)(e:Hc)(w':aE):Prop:=∃g A n c,e=.returned (.pointer (some ⟨g,0,none⟩))/\Rd w' g A n c 0/\bY w.heap.size w w'/\w.heap.size<=g
theorem zwh {m:Nat}(h:Code w A n c)(hm:m<=n)(xA:m<=2000)(o:qQ):zcf (w.alloc o) w.heap.size A m:=
 ⟨xA,λh0=>by
  obtain⟨b,off,e,hb,hj⟩:=h.at_ aC;refine⟨b,off,e,hb,λj zve=>?_⟩;obtain⟨v,hv,h1⟩:=hj j aC;exact⟨v,(zxd w o _ hb).trans hv,h1⟩⟩
theorem Code.alloc (h:Code w A n c)(o:qQ):Code (w.alloc o) A n c:=
 ⟨h.le,h.cap,λh0=>by
  obtain⟨b,off,e,hb,hj⟩:=h.at_ h0;refine⟨b,off,e,pX,λj zve=>?_⟩;obtain⟨v,hv,h1⟩:=hj j zve;exact⟨v,(zxd w o _ hb).trans hv,h1⟩⟩
theorem zDL (A:Option bC)(n c:Nat)(w:aE)(h:Code w A n c):fJ aK 48 #[.slice A n c] w (Opened w):=by
 have hl:=h.le;have pJ:=h.cap;unfold maxLen at pJ;by_cases hn:2000<n
 .obtain⟨b,off,rfl,hb,hj⟩:=h.at_ aC
  clear hj
  go_enter zsb,zsu
  go_wp2;go_ret;exact⟨_,_,2000,c,rfl,⟨0,aC,gV _ _,zwh h aC aC _,aC⟩,eT (fK _ _) _,bL _⟩
 .go_enter zsb,zsu
  go_wp2;go_ret;exact⟨_,A,n,c,rfl,⟨0,aC,gV _ _,zwh h aC aC _,aC⟩,eT (fK _ _) _,bL _⟩
end Go.Proofs.YtfcjiloojkjaeaaGreatDoor
namespace Go.Proofs.YtfcjiloojkjaeaaGreatDoor
open Go.Joins Go.ChangeShapes Go.WideShapes Go.RowKit Go.Deep
section
variable {H:Type}{enc:aN×aF->H}{P:bT}{w:aE}{base:Nat}{held:Bool}
variable {p:List MemPlace}
theorem zIw {t e:aN}{A:Option bC}{len cap:Nat}{d:DataW H}(ht:P.underlying t=some (.slice e))(he:P.underlying e=some (.int .u8))(hc:P.cellsOf e=1)
 (h:DataW.Trod enc P w base (λ_=>true) held t (.slice A len cap) d p):Code w A len cap:=by
 obtain⟨fuel,hf⟩:=h;rcases open_ints ht he hc hf with⟨gJ,_⟩|⟨a,len',Pc,zs,gJ,_,hl,hm,hz,_,hcell,tD⟩
 .simp[Vx] at gJ
  obtain⟨rfl,rfl,rfl⟩:=gJ;exact⟨bL _,mK _,λh0=>absurd h0 aC⟩
 .simp[Vx] at gJ
  obtain⟨rfl,rfl,rfl⟩:=gJ;simp only[if_true] at hz;refine⟨hl,hm,λh0=>?_⟩;obtain⟨b,off,spot⟩:=a;have h1:=hcell 0 aC;have zGs:spot=none:=by simpa[zhH] using aE.cell?_spot h1
  subst zGs;have hb:b<w.heap.size:=by have:=zws w _ h1;rw[add_plain] at this;exact this
  refine⟨b,off,rfl,hb,λj hj=>?_⟩;have h2:=hcell j aC;rw[add_plain] at h2;have h3:=range_u8 tD j;rw[<-List.getD_eq_getElem?_getD] at h3;exact⟨_,h2,h3.1,h3.2⟩
end
end Go.Proofs.YtfcjiloojkjaeaaGreatDoor
namespace Go.Proofs.YtfcjiloojkjaeaaGreatDoor
open Go.ChangeShapes Go.WideShapes Go.ChangeAt Go.RowKit
section
variable {P:bT}{w:aE}{base:Nat}
theorem zHJ {t e:aN}{A:Option bC}{n c:Nat}{r:Reach}(ht:P.underlying t=some (.slice e))(h:zyw P w r base t (.slice A n c)):∀a,A=some a->a.spot=none/\∃cs T fz,w.heap[a.block]? =some (.cells cs T fz):=by
 intro a e;subst e;simp only[zyw,ht,Cell.okWide,Cell.ok,aE.has] at h;obtain⟨_,_,_,It,row,cells,mP,_⟩:=h;refine⟨It,?_⟩;unfold zdJ at mP;split at mP
 .rename_i cs T fz hb
  exact⟨cs,T,fz,hb⟩
 .cases mP
end
end Go.Proofs.YtfcjiloojkjaeaaGreatDoor
namespace Go.Proofs.YtfcjiloojkjaeaaGreatDoor
open Go.RowKit
structure bV where
 c:Int
 l:Int
 o:Int
 f:Int
 h:Int
 t:Int
 e:ByteArray
 deriving DecidableEq
def bV.cells (d:bV):List Value:=[.int .i64 d.c,.int .i64 d.l,.int .i64 d.o,.int .i64 d.f,.int .i64 d.h,.int .i64 d.t,.string d.e]
def recs (ds:List bV):List Value:=ds.flatMap bV.cells
def zyd (ds:List bV):(recs ds).length=ds.length*7:=J2 bV.cells (s:=7) (λ_=>rfl) ds
variable {ds:List bV}{k:Nat}{d:bV}
theorem zAt (h:ds[k]? =some d):(recs ds)[k*7+0]? =some (.int .i64 d.c)/\(recs ds)[k*7+1]? =some (.int .i64 d.l)/\(recs ds)[k*7+2]? =some (.int .i64 d.o)/\(recs ds)[k*7+3]? =some (.int .i64 d.f)/\(recs ds)[k*7+4]? =some (.int .i64 d.h)/\(recs ds)[k*7+5]? =some (.int .i64 d.t)/\(recs ds)[k*7+6]? =some (.string d.e):=by
 have e:=λi hi=>Ox bV.cells (s:=7) (λ_=>rfl) ds k i hi;unfold recs;rw[e 0 aC,e 1 aC,e 2 aC,e 3 aC,e 4 aC,e 5 aC,e 6 aC,h];exact⟨rfl,rfl,rfl,rfl,rfl,rfl,rfl⟩
variable {w:aE}{lo hi n c:Nat}{A:Option bC}
theorem cE.recLen (h:cE w lo hi 7 A n c (recs ds)):ds.length=n:=by
 have:=h.len;rw[zyd] at this;omega
structure RecAt (w:aE)(b off:Nat)(d:bV):Prop where
 c0:w.cell? ⟨b,off,none⟩=some (.int .i64 d.c)
 c1:w.cell? ⟨b,off+1,none⟩=some (.int .i64 d.l)
 c2:w.cell? ⟨b,off+2,none⟩=some (.int .i64 d.o)
 c3:w.cell? ⟨b,off+3,none⟩=some (.int .i64 d.f)
 c4:w.cell? ⟨b,off+4,none⟩=some (.int .i64 d.h)
 c5:w.cell? ⟨b,off+5,none⟩=some (.int .i64 d.t)
 c6:w.cell? ⟨b,off+6,none⟩=some (.string d.e)
theorem cE.recAt (h:cE w lo hi 7 A n c (recs ds))(hk:k<n):
 ∃b off d,A=some ⟨b,off,none⟩/\lo<=b/\b<hi/\b<w.heap.size/\ds[k]? =some d/\RecAt w b (off+k*7) d:=by
 obtain⟨b,off,e,h1,h2,h3,h4⟩:=h.cells hk;have hl:k<ds.length:=by rw[h.recLen];exact hk
 obtain⟨g0,g1,g2,g3,g4,g5,g6⟩:=zAt (nI hl);exact⟨b,off,ds[k],e,h1,h2,h3,nI hl,⟨h4 0 _ g0,h4 1 _ g1,h4 2 _ g2,h4 3 _ g3,h4 4 _ g4,h4 5 _ g5,h4 6 _ g6⟩⟩
def recP (c l o f h t:Int)(e:List UInt8):Prop:=
 1<=c/\c<=99/\1<=l/\l<=6/\0<=o/\o<=4/\0<=f/\f<=3600/\
  (
   (e=[111,112,101,110]/\t= -1/\((o=0/\h= -1)\/(o≠0/\f<=h/\h<=3600)))\/
   (e=[100,111,110,101]/\o≠0/\f<=h/\h<=t/\t<=3600)\/
   ((e=[108,101,102,116]\/e=[116,105,114,101,100])/\o=0/\h= -1/\f<=t/\t<=3600))
instance (c l o f h t:Int)(e:List UInt8):Decidable (recP c l o f h t e):=by unfold recP;infer_instance
def recB (c l o f h t:Int)(e:List UInt8):Bool:=decide (recP c l o f h t e)
def overP (o f h t:Int)(e:List UInt8):Prop:=
 (e=[100,111,110,101]/\0<o/\f<=h/\h<=t/\t<=3600/\f<=t)\/
  ((e=[108,101,102,116]\/e=[116,105,114,101,100])/\o=0/\h= -1/\f<=t/\t<=3600)
instance (o f h t:Int)(e:List UInt8):Decidable (overP o f h t e):=by unfold overP;infer_instance
theorem cE.rec7 (h:cE w lo hi 7 A n c (recs ds))(hk:k<n):
 ∃b off d,A=some ⟨b,off,none⟩/\lo<=b/\b<hi/\b<w.heap.size/\ds[k]? =some d/\w.cell? ⟨b,off+k*7,none⟩=some (.int .i64 d.c)/\w.cell? ⟨b,off+k*7+1,none⟩=some (.int .i64 d.l)/\w.cell? ⟨b,off+k*7+2,none⟩=some (.int .i64 d.o)/\w.cell? ⟨b,off+k*7+3,none⟩=some (.int .i64 d.f)/\w.cell? ⟨b,off+k*7+4,none⟩=some (.int .i64 d.h)/\w.cell? ⟨b,off+k*7+5,none⟩=some (.int .i64 d.t)/\w.cell? ⟨b,off+k*7+6,none⟩=some (.string d.e):=by
 obtain⟨b,off,d,e,h1,h2,h3,hd,⟨c0,c1,c2,c3,c4,c5,c6⟩⟩:=h.recAt hk;exact⟨b,off,d,e,h1,h2,h3,hd,c0,c1,c2,c3,c4,c5,c6⟩
def zw8:(aK.info? 50).map (λi=>(i.zero,i.size,i.bytes))=some (some (.agg #[.int .i64 0,.int .i64 0,.int .i64 0,.int .i64 0,.int .i64 0,.int .i64 0,.string ⟨#[]⟩]),7,64):=aP
variable {α:Type}
theorem zzi {p:α->Bool}{l:List α}{a:α}(h:∀j,j<k->∀b,l[j]? =some b->p b=true)(hk:l[k]? =some a)(ha:p a=true):∀j,j<k+1->∀b,l[j]? =some b->p b=true:=by
 intro j hj b hb;by_cases e:j=k
 .subst e;rw[hk] at hb;injection hb with hb;subst hb;exact ha
 .exact h j aC b hb
theorem allF_of {p:α->Bool}{l:List α}(h:∀j,j<k->∀b,l[j]? =some b->p b=true)(hk:l.length<=k):l.all p=true:=by
 rw[List.all_eq_true];intro a ha;obtain⟨j,hj,e⟩:=P8.1 ha;exact h j aC a (by rw[nI hj,e])
theorem zGf {p:α->Bool}{l:List α}{a:α}(hk:l[k]? =some a)(ha:p a=false):l.all p=false:=by
 rw[List.all_eq_false];exact⟨a,List.mem_of_getElem? hk,by simp[ha]⟩
section
variable {w W W':aE}{a0 a1 a2:bC}{v0 v1 v2:aF}
theorem zme (hb:bY W.heap.size W W')(h:W.cell? a0=some v0/\W.cell? a1=some v1/\W.cell? a2=some v2/\bY w.heap.size w W):W'.cell? a0=some v0/\W'.cell? a1=some v1/\W'.cell? a2=some v2/\bY w.heap.size w W':=by
 have e:∀{a:bC} {v:aF},W.cell? a=some v->W'.cell? a=some v:=λ{a v} hv=>(Bg (hb.block _ (zws W _ hv))).trans hv;exact⟨e h.1,e h.2.1,e h.2.2.1,ziX h.2.2.2 hb⟩
def zlZ (h:W.cell? a0=some v0/\W.cell? a1=some v1/\W.cell? a2=some v2/\bY w.heap.size w W):W.drew.cell? a0=some v0/\W.drew.cell? a1=some v1/\W.drew.cell? a2=some v2/\bY w.heap.size w W.drew:=
 ⟨h.1,h.2.1,h.2.2.1,⟨h.2.2.2.os,h.2.2.2.tape,h.2.2.2.output,h.2.2.2.size,h.2.2.2.block⟩⟩
end
structure bN where
 c:Int
 p:Int
 deriving DecidableEq
def bN.cells (x:bN):List Value:=[.int .i64 x.c,.int .i64 x.p]
def bH (xs:List bN):List Value:=xs.flatMap bN.cells
structure fP where
 ln:Int
 op:Int
 pt:Int
 deriving DecidableEq
structure dQ where
 k:ByteArray
 a:Int
 b:Int
 deriving DecidableEq
def dQ.cells (x:dQ):List Value:=[.string x.k,.int .i64 x.a,.int .i64 x.b]
def pA (xs:List dQ):List Value:=xs.flatMap dQ.cells
def eL (d:bV):Bool:=d.e.toList==[111,112,101,110]
def Bb (c:Int)(d:bV):Bool:=d.c==c&&eL d
def iS (rs:List bV)(c:Int):Option Nat:=rs.findIdx? (Bb c)
def H8:Option Nat->Int
 |some i=>(i:Int)
 |none=>-1
def xE (op:Int)(d:bV):Bool:=d.o==op&&eL d
def dO (rs:List bV)(op:Int):Int:=match rs.find? (xE op) with|some d=>d.c|none=>0
def rN (rs:List bV)(l:Int):Bool:=rs.any λd=>d.l==l&&eL d
def x4 (rs:List bV)(n:Nat):List Int:=((List.range n).map λi:Nat=>(i:Int)+1).filter λl=>!rN rs l
def o0 (o:fP)(rs:List bV):List Int:=x4 rs o.ln.toNat
def wA (xs:List bN)(c:Int):Option Nat:=xs.findIdx? λx=>x.c==c
def dZ (xs:List bN)(c:Int):List bN:=xs.filter λx=>x.c !=c
def uE (xs:List bN)(c:bN):List bN:=xs.takeWhile (λx=>decide (c.p<=x.p))++c::xs.dropWhile (λx=>decide (c.p<=x.p))
structure cC where
 o:fP
 clk:Int
 recs:List bV
 wait:List bN
 back:List bN
 log:List (List UInt8)
def G4:ByteArray:=⟨#[100,111,110,101]⟩
def Dd:ByteArray:=⟨#[108,101,102,116]⟩
def Gn:ByteArray:=⟨#[116,105,114,101,100]⟩
def eN:ByteArray:=⟨#[111,112,101,110]⟩
def Km (b:cC)(i:Nat)(e:ByteArray):List bV:=b.recs.modify i λd=>{d with t:=b.clk,e:=e}
def Hu (rs:List bV)(i:Nat):Int:=match rs[i]? with|some d=>d.c|none=>0
def lN (b:cC)(i:Nat)(e:ByteArray):cC:={b with recs:=Km b i e,wait:=dZ b.wait (Hu b.recs i)}
def jH (n:Int):List UInt8:=Kj n
def pR (b:cC)(c:bN):cC×List UInt8:=
 if(iS b.recs c.c).isSome||(wA b.back c.c).isSome then(b,[107,110,111,119,110])
 else match o0 b.o b.recs with
  |[]=>({b with back:=b.back++[c]},[98,117,115,121])
  |l::_=>({b with recs:=b.recs++[⟨c.c,l,0,b.clk,-1,-1,eN⟩],wait:=uE b.wait c},[108,105,110,101,32]++jH l)
def n6 (b:cC)(op:Int):cC×List UInt8:=
 if 0<dO b.recs op then(b,[116,97,108,107,115])
 else match b.wait with
  |[]=>(b,[110,111,110,101])
  |c::_=>match iS b.recs c.c with
   |none=>(b,[])
   |some i=>({b with recs:=b.recs.modify i λd=>{d with o:=op,h:=b.clk},wait:=dZ b.wait c.c},[99,97,108,108,32]++jH c.c)
def mQ (b:cC)(op:Int):cC×List UInt8:=
 if 0<dO b.recs op then(b,[116,97,108,107,115])
 else match b.back with
  |[]=>(b,[110,111,110,101])
  |c::_=>match o0 b.o b.recs with
   |[]=>(b,[98,117,115,121])
   |l::_=>({b with back:=dZ b.back c.c,recs:=b.recs++[⟨c.c,l,op,b.clk,b.clk,-1,eN⟩]},[99,97,108,108,32]++jH c.c)
def opAt (rs:List bV)(i:Nat):Int:=match rs[i]? with|some d=>d.o|none=>0
def nD (b:cC)(c:Int):cC×List UInt8:=
 match iS b.recs c with
 |some i=>if 0<opAt b.recs i then(lN b i G4,[100,111,110,101]) else(lN b i Dd,[108,101,102,116])
 |none=>if(wA b.back c).isSome then({b with back:=dZ b.back c},[111,102,102]) else(b,[103,111,110,101])
def X9 (rs:List bV)(i:Nat):Int:=match rs[i]? with|some d=>d.f|none=>0
def lT (bt:cC×List UInt8)(x:bN):cC×List UInt8:=
 match iS bt.1.recs x.c with
 |none=>bt
 |some i=>if bt.1.o.pt<=bt.1.clk-X9 bt.1.recs i then
  ({lN bt.1 i Gn with back:=bt.1.back++[x]},bt.2++[32]++jH x.c) else bt
def uQ (b:cC)(m:Int):cC×List UInt8:=b.wait.foldl lT ({b with clk:=b.clk+m},[97,116,32]++jH (b.clk+m))
def Gz:List UInt8:=[114,105,110,103]
def J6:List UInt8:=[104,97,110,103]
def Ij:List UInt8:=[97,110,115,119,101,114]
def Ik:List UInt8:=[114,101,116,117,114,110]
def Sw:List UInt8:=[119,97,105,116]
def eB (b:cC)(e:dQ):cC×List UInt8:=
 if e.k.toList=Gz then pR b ⟨e.a,e.b⟩ else if e.k.toList=Ij then n6 b e.a else if e.k.toList=Ik then mQ b e.a else if e.k.toList=J6 then nD b e.a else uQ b e.a
def Gf (ops:Int)(e:dQ):Prop:=
 (e.k.toList=Gz/\1<=e.a/\e.a<=99/\0<=e.b/\e.b<=9)\/(e.k.toList=J6/\1<=e.a/\e.a<=99/\e.b=0)\/((e.k.toList=Ij\/e.k.toList=Ik)/\1<=e.a/\e.a<=ops/\e.b=0)\/(e.k.toList=Sw/\1<=e.a/\e.a<=60/\e.b=0)
instance (ops:Int)(e:dQ):Decidable (Gf ops e):=by unfold Gf;infer_instance
def qR (ops:Int)(e:dQ):Bool:=decide (Gf ops e)
def mY (o:fP):Bool:=decide (1<=o.ln/\o.ln<=6/\1<=o.op/\o.op<=4/\1<=o.pt/\o.pt<=60)
def eM (o:fP)(es:List dQ):Bool:=mY o&&decide (es.length<=60)&&es.all (qR o.op)
def mU (o:fP):cC:=⟨o,0,[],[],[],[]⟩
def F6 (bt:cC×List UInt8):cC:={bt.1 with log:=bt.1.log++[bt.2]}
def C8 (o:fP)(es:List dQ):cC:=es.foldl (λb e=>F6 (eB b e)) (mU o)
def vD (o:fP)(es:List dQ):cC:=if eM o es then C8 o es else mU o
variable {ds:List dQ}
theorem cE.eventsLen (h:cE w lo hi 3 A n c (pA ds)):ds.length=n:=by
 have h1:=h.len;have h2:=J2 dQ.cells (s:=3) (λ_=>rfl) ds;unfold pA at h1;omega
theorem cE.eventsAt (h:cE w lo hi 3 A n c (pA ds))(hk:k<n):
 ∃b off d,A=some ⟨b,off,none⟩/\lo<=b/\b<hi/\b<w.heap.size/\ds[k]? =some d/\w.cell? ⟨b,off+k*3,none⟩=some (.string d.k)/\w.cell? ⟨b,off+k*3+1,none⟩=some (.int .i64 d.a)/\w.cell? ⟨b,off+k*3+2,none⟩=some (.int .i64 d.b):=by
 have hl:=h.eventsLen;have hx:ds[k]? =some ds[k]:=nI aC;have g:∀i,i<3->(pA ds)[k*3+i]? =(ds[k].cells)[i]? :=λi hi=>by
  have:=Ox dQ.cells (s:=3) (λ_=>rfl) ds k i hi;rw[hx] at this;exact this
 obtain⟨b,off,rfl,h1,h2,h3,h4⟩:=h.cells hk;exact⟨b,off,ds[k],rfl,h1,h2,h3,hx,h4 0 _ (g 0 aH),by rw[zat];exact h4 1 _ (g 1 aH),by rw[zat];exact h4 2 _ (g 2 aH)⟩
def txt (l:List UInt8):Value:=.string ⟨l.toArray⟩
def nV (ss:List (List UInt8)):List Value:=ss.map txt
variable {ss:List (List UInt8)}
theorem zA4 {l:List UInt8}(h:ss[k]? =some l):(nV ss)[k]? =some (.string ⟨l.toArray⟩):=by simp[nV,h,txt]
theorem zy8 (ss:List (List UInt8)):(nV ss).length=ss.length:=by simp[nV]
theorem cE.txtLen (h:cE w lo hi 1 A n c (nV ss)):ss.length=n:=by
 have:=h.len;rw[zy8] at this;omega
theorem cE.txtAt (h:cE w lo hi 1 A n c (nV ss))(hk:k<n):
 ∃b off l,A=some ⟨b,off,none⟩/\lo<=b/\b<hi/\b<w.heap.size/\ss[k]? =some l/\w.cell? ⟨b,off+k,none⟩=some (.string ⟨l.toArray⟩):=by
 obtain⟨b,off,e,h1,h2,h3,h4⟩:=h.at_ aC;have hl:k<ss.length:=by rw[h.txtLen];exact hk
 exact⟨b,off,ss[k],e,h1,h2,h3,nI hl,h4 k _ (zA4 (nI hl))⟩
variable {ds:List bN}
theorem cE.callsLen (h:cE w lo hi 2 A n c (bH ds)):ds.length=n:=by
 have h1:=h.len;have h2:=J2 bN.cells (s:=2) (λ_=>rfl) ds;unfold bH at h1;omega
theorem cE.callsAt (h:cE w lo hi 2 A n c (bH ds))(hk:k<n):
 ∃b off d,A=some ⟨b,off,none⟩/\lo<=b/\b<hi/\b<w.heap.size/\ds[k]? =some d/\w.cell? ⟨b,off+k*2,none⟩=some (.int .i64 d.c)/\w.cell? ⟨b,off+k*2+1,none⟩=some (.int .i64 d.p):=by
 have hl:=h.callsLen;have hx:ds[k]? =some ds[k]:=nI aC;have g:∀i,i<2->(bH ds)[k*2+i]? =(ds[k].cells)[i]? :=λi hi=>by
  have:=Ox bN.cells (s:=2) (λ_=>rfl) ds k i hi;rw[hx] at this;exact this
 obtain⟨b,off,rfl,h1,h2,h3,h4⟩:=h.cells hk;exact⟨b,off,ds[k],rfl,h1,h2,h3,hx,h4 0 _ (g 0 aH),by rw[zat];exact h4 1 _ (g 1 aH)⟩
variable {W0:aE}{a1 a2:bC}{v1 v2:aF}
def pU {W:aE}(h:W.cell? a1=some v1/\W.cell? a2=some v2/\bY W0.heap.size W0 W):bY W0.heap.size W0 W:=h.2.2
def zpp {W':aE}(z1:a1.block<W0.heap.size)(z2:a2.block<W0.heap.size)(h1:W0.cell? a1=some v1)(h2:W0.cell? a2=some v2)(hb:bY W0.heap.size W0 W'):W'.cell? a1=some v1/\W'.cell? a2=some v2/\bY W0.heap.size W0 W':=
 ⟨(Bg (hb.block _ z1)).trans h1,(Bg (hb.block _ z2)).trans h2,hb⟩
section
variable {P:bT}(w:aE)
theorem zCF (t ty:aN)(base:Nat)(e:aN)(i:xO)(z:aF)(size bytes:Nat)(ht:P.underlying t=some (.slice e))(hi:P.info? e=some i)(hz:i.zero=some z)
 (xN:i.size=size) (vK:i.bytes=bytes) (hzs:z.cells.size=size) (cK:0<size)
 (g0 n c0:Nat) (xs:List aF) (dF:w.ownsRow base e size (.slice (some ⟨g0,0,none⟩) n c0) n xs)
 (A:Option bC) (m c lo kN:Nat) (news:List aF) (hs:cE w lo kN size A m c news) (h1:∀u∈news,u.oneCell'=true)
 (xP:n+m<=maxLen) (xV:(n+m)*bytes<=140737488355328) (sS:base<=w.heap.size):
 ∃g cap w',(xG #[t,t] ty #[.slice (some ⟨g0,0,none⟩) n c0,.slice A m c]).run P w=.ok (.slice (some ⟨g,0,none⟩) (n+m) cap) w'/\
  w'.ownsRow base e size (.slice (some ⟨g,0,none⟩) (n+m) cap) (n+m) (xs++news)/\w.grownBy w' (Kr (.slice (some ⟨g0,0,none⟩) n c0))/\bY base w w':=by
 cases A with
 |none=>
  have hm:m=0:=by
   rcases Nat.eq_zero_or_pos m with h|h
   .exact h
   .obtain⟨b,off,e,_⟩:=hs.at_ h;cases e
  subst hm;have pP:news=[]:=by have:=hs.len;simp at this;exact this
  subst pP;have hle:n<=c0:=by
   obtain⟨_,h|⟨b,cap,cur,e,h1,h2,h3,_⟩⟩:=dF
   .cases h.1
   .injection e with _ _ e;omega
  have hr:=run_append_room_src (P:=P) w t t ty e i ht hi g0 0 n c0 (.slice none 0 c) 0 [] (Src.ofNil (P:=P) (e':=e) w ht c) aC (by intro j hj;simp at hj) (by intro j hj;simp at hj);refine⟨g0,c0,w,by simpa[aE.setCells] using hr,by simpa using dF,⟨rfl,rfl,rfl,bL _,λ_ _ _=>rfl⟩,fK _ _⟩
 |some ad=>
  by_cases hm:0<m
  .obtain⟨b,off,e',_,_,_,h4⟩:=hs.at_ hm
   injection e' with e';subst e';exact zj9 w t ty base e i z size bytes ht hi hz xN vK hzs cK _ n xs dF aQ _ m c news hs.len (λj u hu=>by rw[bC.add_lit];exact h4 j u hu) h1 xP xV sS
  .obtain rfl:m=0:=aC
   have pP:news=[]:=by have:=hs.len;simp at this;exact this
   subst pP;exact zj9 w t ty base e i z size bytes ht hi hz xN vK hzs cK _ n xs dF aQ _ 0 c [] aQ (λj u hu=>by simp at hu) (λu hu=>by cases hu) xP xV sS
variable {o:aX}{a:Act}
theorem wp_apps {K:Act->aE->Prop}{Q:Exit->Act->aE->Prop}(s x:cJ)(t:aN)
 (ho:o.op=.call {callee:=.builtin .append,args:=#[s,x],argTypes:=#[t,t]})
 (base:Nat) (e:aN) (i:xO) (z:aF) (size bytes:Nat) (ht:P.underlying t=some (.slice e)) (hi:P.info? e=some i) (hz:i.zero=some z)
 (xN:i.size=size) (vK:i.bytes=bytes) (hzs:z.cells.size=size) (cK:0<size)
 (g0 n c0:Nat) (xs:List aF) (zkl:a.eval s=.slice (some ⟨g0,0,none⟩) n c0) (dF:w.ownsRow base e size (.slice (some ⟨g0,0,none⟩) n c0) n xs)
 (A:Option bC) (m c lo kN:Nat) (news:List aF) (hx:a.eval x=.slice A m c) (hs:cE w lo kN size A m c news) (h1:∀u∈news,u.oneCell'=true)
 (xP:n+m<=maxLen) (xV:(n+m)*bytes<=140737488355328) (sS:base<=w.heap.size)
 (h:∀g cap w',w'.ownsRow base e size (.slice (some ⟨g,0,none⟩) (n+m) cap) (n+m) (xs++news)->w.grownBy w' (Kr (.slice (some ⟨g0,0,none⟩) n c0))->bY base w w'->K (a.put o.dst (.slice (some ⟨g,0,none⟩) (n+m) cap)) w'):o.wp P a w K Q:=by
 obtain⟨g,cap,w',hr,h2,h3,h4⟩:=zCF (P:=P) w t o.type base e i z size bytes ht hi hz xN vK hzs cK g0 n c0 xs dF A m c lo kN news hs h1 xP xV sS;unfold C5 execOp;simp only[ho,resolve,invoke,builtin,F7,J1,E9,tJ,jD,sC,zkl,hx,hr];exact h g cap w' h2 h3 h4
theorem zeF {ops:Array aX}{K:Act->aE->Prop}{Q:Exit->Act->aE->Prop}{EE:Prop}(hw:cO o (cS ops a.tmps)=true)(s x:cJ)(t:aN)
 (ho:o.op=.call {callee:=.builtin .append,args:=#[s,x],argTypes:=#[t,t]})
 (base:Nat) (e:aN) (i:xO) (z:aF) (size bytes:Nat) (ht:P.underlying t=some (.slice e)) (hi:P.info? e=some i) (hz:i.zero=some z)
 (xN:i.size=size) (vK:i.bytes=bytes) (hzs:z.cells.size=size) (cK:0<size)
 (g0 n c0:Nat) (xs:List aF) (zkl:a.eval s=.slice (some ⟨g0,0,none⟩) n c0) (dF:w.ownsRow base e size (.slice (some ⟨g0,0,none⟩) n c0) n xs)
 (A:Option bC) (m c lo kN:Nat) (news:List aF) (hx:a.eval x=.slice A m c) (hs:cE w lo kN size A m c news) (h1:∀u∈news,u.oneCell'=true)
 (xP:n+m<=maxLen) (xV:(n+m)*bytes<=140737488355328) (sS:base<=w.heap.size)
 (h:∀g cap w',w'.ownsRow base e size (.slice (some ⟨g,0,none⟩) (n+m) cap) (n+m) (xs++news)->w.grownBy w' (Kr (.slice (some ⟨g0,0,none⟩) n c0))->bY base w w'->K (a.put o.dst (.slice (some ⟨g,0,none⟩) (n+m) cap)) w'):
 if cO o (cS ops a.tmps)=true then C5 P o a w K Q else EE:=by
 rw[if_pos hw];exact wp_apps w s x t ho base e i z size bytes ht hi hz xN vK hzs cK g0 n c0 xs zkl dF A m c lo kN news hx hs h1 xP xV sS h
end
theorem zaS {p:α->Bool}:∀{l:List α} {k:Nat} {a:α},l[k]? =some a->p a=true->(∀j,j<k->∀b,l[j]? =some b->p b=false)->l.findIdx? p=some k
 |[],k,a,h,_,_=>by simp at h
 |x::xs,0,a,h,ha,_=>by grind
 |x::xs,k+1,a,h,ha,hn=>by
  have hx:=hn 0 aC x rfl;rw[List.findIdx?_cons,hx,zaS (l:=xs) (k:=k) zhp ha (λj hj b hb=>hn (j+1) aC b zg6)];simp
theorem zkG {p:α->Bool}{l:List α}(hn:∀j,j<k->∀b,l[j]? =some b->p b=false)(hk:l.length<=k):l.findIdx? p=none:=by
 rw[List.findIdx?_eq_none_iff];intro x hx;obtain⟨j,hj,e⟩:=P8.1 hx;exact hn j aC x uU
theorem zwW {p:α->Bool}:∀{l:List α} {k:Nat} {a:α},l[k]? =some a->p a=true->(∀j,j<k->∀b,l[j]? =some b->p b=false)->l.find? p=some a
 |[],k,a,h,_,_=>by simp at h
 |x::xs,0,a,h,ha,_=>by simp_all
 |x::xs,k+1,a,h,ha,hn=>by
  have hx:=hn 0 aC x rfl;rw[List.find?_cons,hx];exact zwW (l:=xs) (k:=k) zhp ha (λj hj b hb=>hn (j+1) aC b zg6)
theorem find_no {p:α->Bool}{l:List α}(hn:∀j,j<k->∀b,l[j]? =some b->p b=false)(hk:l.length<=k):l.find? p=none:=by
 rw[List.find?_eq_none];intro x hx;obtain⟨j,hj,e⟩:=P8.1 hx;rw[hn j aC x (by rw[nI hj,e])];simp
theorem S4 {p:α->Bool}{l:List α}{a:α}(h:∀j,j<k->∀b,l[j]? =some b->p b=false)(hk:l[k]? =some a)(ha:p a=false):∀j,j<k+1->∀b,l[j]? =some b->p b=false:=by grind
theorem Kq (lo hi n c:Nat)(A:Option bC)(rs:List bV)(q:Int)(w:aE)(h:cE w lo hi 7 A n c (recs rs))(hn:n<=1048576):
 fJ aK 91 #[.slice A n c,.int .i64 q] w λe w'=>e=.returned (.int .i64 (H8 (iS rs q)))/\w'=w:=by
 have hl:=aD h.recLen
 go_enter Tryz.func91,Tryz.ntmps91
 go_wp2
 go_loop [5] (λi=>∃k:Nat,k<=n/\i=.int .i64 k/\∀j,j<k->∀b,rs[j]? =some b->Bb q b=false) (λi=>n-(intOf i).toNat)
 case atStart=>grind
 case round=>
  obtain⟨k,hk,rfl,gJ⟩:=hrel;have HC:=aD gJ;clear gJ;by_cases aU:k<n
  .obtain⟨b,off,d,hA,_,_,h3,fG,gU,qF,Bt,Hd,Im,oL,zgA⟩:=h.rec7 aU
   subst hA;have HX:=aD fG;clear fG h qF Bt Hd Im oL h3;have i0:(0:Int)<=(k:Int):=aC;have i1:(k:Int)<(n:Int):=aC;cases hq:(d.c==q)
   .have HP:=aD (show Bb q d=false by unfold Bb;rw[hq];rfl)
    go_wp2
    go_round
    case rel=>exact⟨k+1,aC,qJ,S4 HC.o HX.o HP.o⟩
    case measure=>simp[intOf];omega
   .cases hd:(d.e.toList==[111,112,101,110])
    .have HP:=aD (show Bb q d=false by unfold Bb eL;rw[hq,hd];rfl)
     go_wp2
     go_round
     case rel=>exact⟨k+1,aC,qJ,S4 HC.o HX.o HP.o⟩
     case measure=>simp[intOf];omega
    .have HP:=aD (show Bb q d=true by unfold Bb eL;rw[hq,hd];rfl)
     go_wp2;go_ret;exact⟨G3 (by unfold iS;rw[zaS HX.o HP.o HC.o];rfl),rfl⟩
  .have e:k=n:=aC
   subst e;clear h;go_wp2;go_ret;exact⟨G3 (by unfold iS;rw[zkG HC.o zgq];rfl),rfl⟩
theorem Rw (lo hi n c:Nat)(A:Option bC)(rs:List bV)(q:Int)(w:aE)(h:cE w lo hi 7 A n c (recs rs))(hn:n<=1048576):
 fJ aK 45 #[.slice A n c,.int .i64 q] w λe w'=>e=.returned (.int .i64 (dO rs q))/\w'=w:=by
 have hl:=aD h.recLen
 go_enter Tryz.func45,Tryz.ntmps45
 go_wp2
 go_loop [5] (λi=>∃k:Nat,k<=n/\i=.int .i64 k/\∀j,j<k->∀b,rs[j]? =some b->xE q b=false) (λi=>n-(intOf i).toNat)
 case atStart=>grind
 case round=>
  obtain⟨k,hk,rfl,gJ⟩:=hrel;have HC:=aD gJ;clear gJ;by_cases aU:k<n
  .obtain⟨b,off,d,hA,_,_,h3,fG,gU,qF,Bt,Hd,Im,oL,zgA⟩:=h.rec7 aU
   subst hA;have HX:=aD fG;clear fG h qF Hd Im oL h3;have i0:(0:Int)<=(k:Int):=aC;have i1:(k:Int)<(n:Int):=aC;cases hq:(d.o==q)
   .have HP:=aD (show xE q d=false by unfold xE;rw[hq];rfl)
    go_wp2
    go_round
    case rel=>exact⟨k+1,aC,qJ,S4 HC.o HX.o HP.o⟩
    case measure=>simp[intOf];omega
   .cases hd:(d.e.toList==[111,112,101,110])
    .have HP:=aD (show xE q d=false by unfold xE eL;rw[hq,hd];rfl)
     go_wp2
     go_round
     case rel=>exact⟨k+1,aC,qJ,S4 HC.o HX.o HP.o⟩
     case measure=>simp[intOf];omega
    .have HP:=aD (show xE q d=true by unfold xE eL;rw[hq,hd];rfl)
     go_wp2;go_ret;exact⟨G3 (by unfold dO;rw[zwW HX.o HP.o HC.o]),rfl⟩
  .have e:k=n:=aC
   subst e;clear h;go_wp2;go_ret;exact⟨G3 (by unfold dO;rw[find_no HC.o zgq]),rfl⟩
theorem zbk (lo hi n c:Nat)(A:Option bC)(xs:List bN)(q:Int)(w:aE)(h:cE w lo hi 2 A n c (bH xs))(hn:n<=1048576):
 fJ aK 92 #[.slice A n c,.int .i64 q] w λe w'=>e=.returned (.int .i64 (H8 (wA xs q)))/\w'=w:=by
 have hl:=aD h.callsLen
 go_enter Tryz.func92,Tryz.ntmps92
 go_wp2
 go_loop [5] (λi=>∃k:Nat,k<=n/\i=.int .i64 k/\∀j,j<k->∀b,xs[j]? =some b->(b.c==q)=false) (λi=>n-(intOf i).toNat)
 case atStart=>grind
 case round=>
  obtain⟨k,hk,rfl,gJ⟩:=hrel;have HC:=aD gJ;clear gJ;by_cases aU:k<n
  .obtain⟨b,off,d,hA,_,_,h3,fG,gU,qF⟩:=h.callsAt aU
   subst hA;have HX:=aD fG;clear fG h qF h3;have i0:(0:Int)<=(k:Int):=aC;have i1:(k:Int)<(n:Int):=aC;cases hq:(d.c==q)
   .have HP:=aD hq
    go_wp2
    go_round
    case rel=>exact⟨k+1,aC,qJ,S4 HC.o HX.o HP.o⟩
    case measure=>simp[intOf];omega
   .have HP:=aD hq
    go_wp2;go_ret;exact⟨G3 (by unfold wA;rw[zaS HX.o HP.o HC.o];rfl),rfl⟩
  .have e:k=n:=aC
   subst e;clear h;go_wp2;go_ret;exact⟨G3 zp1,rfl⟩
def zkS (E s:Nat)(w:aE)(m:Nat)(xs:List aF)(v:aF)(w':aE):Prop:=∃g cp,v=.slice (some ⟨g,0,none⟩) m cp/\w'.ownsRow w.heap.size E s (.slice (some ⟨g,0,none⟩) m cp) m xs/\bY w.heap.size w w'
theorem zqb (bs:List bN)(b:bN):bH (bs++[b])=bH bs++b.cells:=by simp[bH]
def zht:(aK.info? 100).map (λi=>(i.zero,i.size,i.bytes))=some (some (.agg #[.int .i64 0,.int .i64 0]),2,16):=aP
theorem zD7 {xs:List bN}{d:bN}(q:Int)(h:xs[k]? =some d):dZ (xs.take (k+1)) q=dZ (xs.take k) q++(if d.c !=q then[d] else[]):=by
 unfold dZ;rw[Lr,h,Pp];congr 1;simp[zq8]
theorem zfj (lo hi n c:Nat)(A:Option bC)(xs:List bN)(q:Int)(w:aE)(h:cE w lo hi 2 A n c (bH xs))(hn:n<=100000):
 fJ aK 95 #[.slice A n c,.int .i64 q] w λe w'=>∃v,e=.returned v/\zkS 100 2 w (dZ xs q).length (bH (dZ xs q)) v w':=by
 have hl:=aD h.callsLen;obtain⟨i0,fN,gA,dS,jQ⟩:=C6 zht;have HI:=aD (And.intro fN (And.intro gA (And.intro dS jQ)));clear fN gA dS jQ
 go_enter Tryz.func95,Tryz.ntmps95
 go_wp2
 go_loopw [5,6] (λv i wr=>∃(k g L cl:Nat),k<=n/\i=.int .i64 k/\L=(dZ (xs.take k) q).length/\v=.slice (some ⟨g,0,none⟩) L cl/\bY w.heap.size w wr/\wr.ownsRow w.heap.size 100 2 (.slice (some ⟨g,0,none⟩) L cl) L (bH (dZ (xs.take k) q))) (λ_ i _=>n-(intOf i).toNat)
 case atStart=>exact⟨0,w.heap.size,0,0,mK _,rfl,rfl,rfl,eT (fK _ _) _,Qm (bL _) (gV _ _)⟩
 case round=>
  obtain⟨k,g,L,cl,hk,rfl,hL,rfl,B,dF⟩:=hrel;have HL:=aD hL;have Uk:=aD dF;have HB:=aD B;have zzQ:=B.size;have hlen:L<=k:=by rw[hL];unfold dZ;exact eG (Y6 _ _) pX
  clear hL dF;by_cases aU:k<n
  .obtain⟨b,off,d,hA,_,_,h3,fG,gU,qF⟩:=(h.below B).callsAt aU
   subst hA;have HF:=aD (zD7 q fG);clear fG h h3 B;have zHs:(0:Int)<=(k:Int):=aC;have i1:(k:Int)<(n:Int):=aC;cases hq:(d.c !=q)
   .rw[hq] at HF
    have HN:=aD (show dZ (xs.take (k+1)) q=dZ (xs.take k) q by rw[HF.o];simp);go_wp2;go_roundw
    case rel=>exact⟨k+1,g,L,cl,aC,qJ,by rw[HN.o];exact HL.o,rfl,HB.o,by rw[HN.o];exact Uk.o⟩
    case measure=>simp[intOf];omega
   .rw[hq] at HF
    have HN:=aD (show dZ (xs.take (k+1)) q=dZ (xs.take k) q++[d] by rw[HF.o];simp);obtain⟨fN,gA,dS,jQ⟩:=HI.o;have HH:=aD fN;clear fN
    go_wp2_with (at_builtin;refine zpi _ rfl (.tmp 21) (.tmp 26) 57 rfl w.heap.size 100 i0 (.agg #[.int .i64 0,.int .i64 0]) 2 16 Kh HH.o gA dS jQ rfl aH (.slice (some ⟨g,0,none⟩) L cl) L (bH (dZ (xs.take k) q)) rfl (Bn Uk.o ?c1) aQ ⟨_,0,none⟩ 1 1 (bN.cells d) rfl rfl ?c2 Rz ?c5 ?c6 ?c7 ?_;(case c1=>exact λb hb=>sV _ _ b hb);(case c2=>exact Gl (cs:=(bN.cells d).toArray) (mH _ _ aQ));(case c5=>unfold maxLen;omega);(case c6=>omega);(case c7=>(simp;omega));intro g1 c1 w1 tK r8 B1;have Dg:=aD tK;have gT:=aD B1;clear tK r8 B1)
    go_roundw
    case rel=>
     refine⟨k+1,g1,L+1,c1,aC,qJ,by rw[HN.o,HL.o];simp,rfl,(eT HB.o _).trans gT.o,?_⟩;rw[HN.o,zqb];exact Dg.o
    case measure=>simp[intOf];omega
  .have e:k=n:=aC
   subst e;have HT:=aD (show xs.take k=xs by rw[zV zgq]);clear h B;go_wp2;go_ret;refine⟨_,rfl,g,cl,by rw[HL.o,HT.o];rfl,?_,HB.o⟩;have:=Uk.o;rw[HL.o,HT.o] at this;exact this
section
variable {P:bT}(w:aE)
theorem zd3 (t ty:aN)(base:Nat)(e:aN)(i:xO)(z:aF)(size bytes:Nat)(ht:P.underlying t=some (.slice e))(hi:P.info? e=some i)(hz:i.zero=some z)
 (xN:i.size=size) (vK:i.bytes=bytes) (hzs:z.cells.size=size) (cK:0<size)
 (gv cv n:Nat) (xs:List aF) (dF:w.ownsRow base e size (.slice (some ⟨gv,0,none⟩) n cv) n xs)
 (ad:bC) (m c:Nat) (news:List aF) (hl:news.length=m*size) (Fq:∀j u,news[j]? =some u->w.cell? (ad.add j)=some u) (h1:∀u∈news,u.oneCell'=true)
 (xP:n+m<=maxLen) (xV:(n+m)*bytes<=140737488355328) (sS:base<=w.heap.size):
 ∃g cap w',(xG #[t,t] ty #[.slice (some ⟨gv,0,none⟩) n cv,.slice (some ad) m c]).run P w=.ok (.slice (some ⟨g,0,none⟩) (n+m) cap) w'/\
  w'.ownsRow base e size (.slice (some ⟨g,0,none⟩) (n+m) cap) (n+m) (xs++news)/\w.grownBy w' (some gv)/\bY base w w'/\(g=gv\/g=w.heap.size):=by
 obtain⟨v',w',hr,h2,h3,h4,h5⟩:=zq5 (P:=P) w base t ty e i z size bytes ht hi hz xN vK hzs cK _ n xs dF ad m c news hl Fq h1 xP xV sS;obtain⟨g,cap,rfl⟩:=zjL h2 (λh=>by have:=(h4.1 h).1;cases this);refine⟨g,cap,w',hr,h2,h3,zyB dF h3 sS,?_⟩;rcases h5 with h5|h5
 .exact .inl (by simpa[Kr] using h5)
 .exact .inr (by simpa[Kr] using h5)
variable {o:aX}{a:Act}
theorem wp_app2 {K:Act->aE->Prop}{Q:Exit->Act->aE->Prop}(s x:cJ)(t:aN)
 (ho:o.op=.call {callee:=.builtin .append,args:=#[s,x],argTypes:=#[t,t]})
 (base:Nat) (e:aN) (i:xO) (z:aF) (size bytes:Nat) (ht:P.underlying t=some (.slice e)) (hi:P.info? e=some i) (hz:i.zero=some z)
 (xN:i.size=size) (vK:i.bytes=bytes) (hzs:z.cells.size=size) (cK:0<size)
 (gv cv n:Nat) (xs:List aF) (hs:a.eval s=.slice (some ⟨gv,0,none⟩) n cv) (dF:w.ownsRow base e size (.slice (some ⟨gv,0,none⟩) n cv) n xs)
 (ad:bC) (m c:Nat) (news:List aF) (hx:a.eval x=.slice (some ad) m c) (hl:news.length=m*size) (Fq:∀j u,news[j]? =some u->w.cell? (ad.add j)=some u) (h1:∀u∈news,u.oneCell'=true)
 (xP:n+m<=maxLen) (xV:(n+m)*bytes<=140737488355328) (sS:base<=w.heap.size)
 (h:∀g cap w',w'.ownsRow base e size (.slice (some ⟨g,0,none⟩) (n+m) cap) (n+m) (xs++news)->w.grownBy w' (some gv)->bY base w w'->(g=gv\/g=w.heap.size)->K (a.put o.dst (.slice (some ⟨g,0,none⟩) (n+m) cap)) w'):o.wp P a w K Q:=by
 obtain⟨g,cap,w',hr,h2,h3,h4,h5⟩:=zd3 (P:=P) w t o.type base e i z size bytes ht hi hz xN vK hzs cK gv cv n xs dF ad m c news hl Fq h1 xP xV sS;unfold C5 execOp;simp only[ho,resolve,invoke,builtin,F7,J1,E9,tJ,jD,sC,hs,hx,hr];exact h g cap w' h2 h3 h4 h5
def zjp {ops:Array aX}{rest:List aX}{Q:Exit->Act->aE->Prop}(Fy:o.guard=none)(s x:cJ)(t:aN)
 (ho:o.op=.call {callee:=.builtin .append,args:=#[s,x],argTypes:=#[t,t]})
 (base:Nat) (e:aN) (i:xO) (z:aF) (size bytes:Nat) (ht:P.underlying t=some (.slice e)) (hi:P.info? e=some i) (hz:i.zero=some z)
 (xN:i.size=size) (vK:i.bytes=bytes) (hzs:z.cells.size=size) (cK:0<size)
 (gv cv n:Nat) (xs:List aF) (hs:a.eval s=.slice (some ⟨gv,0,none⟩) n cv) (dF:w.ownsRow base e size (.slice (some ⟨gv,0,none⟩) n cv) n xs)
 (ad:bC) (m c:Nat) (news:List aF) (hx:a.eval x=.slice (some ad) m c) (hl:news.length=m*size) (Fq:∀j u,news[j]? =some u->w.cell? (ad.add j)=some u) (h1:∀u∈news,u.oneCell'=true)
 (xP:n+m<=maxLen) (xV:(n+m)*bytes<=140737488355328) (sS:base<=w.heap.size)
 (h:∀g cap w',w'.ownsRow base e size (.slice (some ⟨g,0,none⟩) (n+m) cap) (n+m) (xs++news)->w.grownBy w' (some gv)->bY base w w'->(g=gv\/g=w.heap.size)->wpList P ops Q rest (a.put o.dst (.slice (some ⟨g,0,none⟩) (n+m) cap)) w'):wpList P ops Q (o::rest) a w:=
 wpList_plain Fy λ_ hK=>wp_app2 w s x t ho base e i z size bytes ht hi hz xN vK hzs cK gv cv n xs hs dF ad m c news hx hl Fq h1 xP xV sS λg cap w' h2 h3 h4 h5=>hK _ _ (h g cap w' h2 h3 h4 h5)
end
structure fT where
 gR:Nat
 cR:Nat
 gW:Nat
 cW:Nat
 gB:Nat
 cB:Nat
 gL:Nat
 cL:Nat
abbrev fT.sR (v:fT)(r:cC):Value:=.slice (some ⟨v.gR,0,none⟩) r.recs.length v.cR
abbrev fT.sW (v:fT)(r:cC):Value:=.slice (some ⟨v.gW,0,none⟩) r.wait.length v.cW
abbrev fT.sB (v:fT)(r:cC):Value:=.slice (some ⟨v.gB,0,none⟩) r.back.length v.cB
abbrev fT.sL (v:fT)(r:cC):Value:=.slice (some ⟨v.gL,0,none⟩) r.log.length v.cL
abbrev fR (v:fT)(r:cC):Array Value:=#[.int .i64 r.o.ln,.int .i64 r.o.op,.int .i64 r.o.pt,.int .i64 r.clk,v.sR r,v.sW r,v.sB r,v.sL r]
abbrev Gi (v:fT)(r:cC):Obj:=.cells (fR v r) 59
structure dW (w:aE)(lo:Nat)(v:fT)(r:cC):Prop where
 rc:w.ownsRow lo 50 7 (v.sR r) r.recs.length (recs r.recs)
 wt:w.ownsRow lo 100 2 (v.sW r) r.wait.length (bH r.wait)
 bk:w.ownsRow lo 100 2 (v.sB r) r.back.length (bH r.back)
 lg:w.ownsRow lo 9 1 (v.sL r) r.log.length (nV r.log)
 ap:v.gR≠v.gW/\v.gR≠v.gB/\v.gR≠v.gL/\v.gW≠v.gB/\v.gW≠v.gL/\v.gB≠v.gL
structure oV (v:fT)(w w':aE):Prop where
 os:w'.os=w.os
 tape:w'.tape=w.tape
 output:w'.output=w.output
 size:w.heap.size<=w'.heap.size
 block:∀b,b<w.heap.size->b≠v.gR->b≠v.gB->w'.heap[b]? =w.heap[b]?
structure xB (n:Nat)(v v':fT):Prop where
 r:v'.gR=v.gR\/n<=v'.gR
 w:v'.gW=v.gW\/n<=v'.gW
 b:v'.gB=v.gB\/n<=v'.gB
 l:v'.gL=v.gL
section
variable {w w' Fg:aE}{lo:Nat}{v v' zdf:fT}{r:cC}
def oV.of_below (v:fT)(h:bY w.heap.size w w'):oV v w w':=⟨h.os,h.tape,h.output,h.size,λb hb _ _=>h.block b hb⟩
theorem oV.trans {n:Nat}(h:oV v w w')(k:oV v' w' Fg)(m:xB n v v')(hn:w.heap.size<=n):oV v w Fg:=
 ⟨k.os.trans h.os,k.tape.trans h.tape,k.output.trans h.output,eG h.size k.size,λb hb h1 h2=>(k.block b (j5 hb h.size) (λe=>by rcases m.r with x|x<;>omega) (λe=>by rcases m.b with x|x<;>omega)).trans (h.block b hb h1 h2)⟩
def oV.same (h:oV v w w')(k:oV v w' Fg):oV v w Fg:=
 ⟨k.os.trans h.os,k.tape.trans h.tape,k.output.trans h.output,eG h.size k.size,λb hb h1 h2=>(k.block b (j5 hb h.size) h1 h2).trans (h.block b hb h1 h2)⟩
def xB.refl (n:Nat)(v:fT):xB n v v:=⟨.inl rfl,.inl rfl,.inl rfl,rfl⟩
theorem xB.trans {n m:Nat}(h:xB n v v')(k:xB m v' zdf)(hm:n<=m):xB n v zdf:=
 ⟨
  k.r.elim (λe=>h.r.imp (λx=>e.trans x) (λx=>by omega)) (λx=>.inr aC),k.w.elim (λe=>h.w.imp (λx=>e.trans x) (λx=>by omega)) (λx=>.inr aC),
  k.b.elim (λe=>h.b.imp (λx=>e.trans x) (λx=>by omega)) (λx=>.inr aC),k.l.trans h.l⟩
def dW.keep (h:dW w lo v r)(k:∀b,b<w.heap.size->w'.heap[b]? =w.heap[b]?):dW w' lo v r:=⟨Bn h.rc k,Bn h.wt k,Bn h.bk k,Bn h.lg k,h.ap⟩
def dW.below (h:dW w lo v r)(k:bY w.heap.size w w'):dW w' lo v r:=h.keep λb hb=>k.block b hb
def dW.alloc (h:dW w lo v r)(o:qQ):dW (w.alloc o) lo v r:=h.keep λb hb=>sV w o b hb
def dW.lts (h:dW w lo v r):lo<=v.gR/\v.gR<w.heap.size/\lo<=v.gW/\v.gW<w.heap.size/\lo<=v.gB/\v.gB<w.heap.size/\lo<=v.gL/\v.gL<w.heap.size:=
 ⟨(h.rc.lt _ rfl).1,(h.rc.lt _ rfl).2,(h.wt.lt _ rfl).1,(h.wt.lt _ rfl).2,(h.bk.lt _ rfl).1,(h.bk.lt _ rfl).2,(h.lg.lt _ rfl).1,(h.lg.lt _ rfl).2⟩
def dW.slcR (h:dW w lo v r):cE w lo w.heap.size 7 (some ⟨v.gR,0,none⟩) r.recs.length v.cR (recs r.recs):=Be h.rc aH
def dW.slcW (h:dW w lo v r):cE w lo w.heap.size 2 (some ⟨v.gW,0,none⟩) r.wait.length v.cW (bH r.wait):=Be h.wt aH
def dW.slcB (h:dW w lo v r):cE w lo w.heap.size 2 (some ⟨v.gB,0,none⟩) r.back.length v.cB (bH r.back):=Be h.bk aH
def dW.clock (h:dW w lo v r)(k:Int):dW w lo v {r with clk:=k}:=⟨h.rc,h.wt,h.bk,h.lg,h.ap⟩
variable {xs:List bN}
theorem dW.newW {m g c:Nat}(h:dW w lo v r)(hk:∀b,b<w.heap.size->w'.heap[b]? =w.heap[b]?)(ho:w'.ownsRow lo 100 2 (.slice (some ⟨g,0,none⟩) m c) m (bH xs))(hm:m=xs.length)(hg:w.heap.size<=g):
 dW w' lo {v with gW:=g,cW:=c} {r with wait:=xs}:=by
 have l:=h.lts;have k:=h.keep hk;subst hm;exact⟨k.rc,ho,k.bk,k.lg,by have:=h.ap;simp only;omega⟩
theorem dW.newB {m g c:Nat}(h:dW w lo v r)(hk:∀b,b<w.heap.size->w'.heap[b]? =w.heap[b]?)(ho:w'.ownsRow lo 100 2 (.slice (some ⟨g,0,none⟩) m c) m (bH xs))(hm:m=xs.length)(hg:w.heap.size<=g):
 dW w' lo {v with gB:=g,cB:=c} {r with back:=xs}:=by
 have l:=h.lts;have k:=h.keep hk;subst hm;exact⟨k.rc,k.wt,ho,k.lg,by have:=h.ap;simp only;omega⟩
theorem dW.appB {m g c:Nat}{x:bN}(h:dW w lo v r)(hg:w.grownBy w' (some v.gB))(ho:w'.ownsRow lo 100 2 (.slice (some ⟨g,0,none⟩) m c) m (bH r.back++x.cells))(hm:m=r.back.length+1)(hw:g=v.gB\/w.heap.size<=g):
 dW w' lo {v with gB:=g,cB:=c} {r with back:=r.back++[x]}:=by
 have l:=h.lts;have a:=h.ap;subst hm;refine⟨h.rc.kept hg (.inr Ih),h.wt.kept hg (.inr Ih),?_,h.lg.kept hg (.inr Ih),by simp only;omega⟩;have e:bH (r.back++[x])=bH r.back++x.cells:=zqb _ _
 grind
theorem dW.appR {m g c:Nat}{x:bV}(h:dW w lo v r)(hg:w.grownBy w' (some v.gR))(ho:w'.ownsRow lo 50 7 (.slice (some ⟨g,0,none⟩) m c) m (recs r.recs++x.cells))(hm:m=r.recs.length+1)(hw:g=v.gR\/w.heap.size<=g):
 dW w' lo {v with gR:=g,cR:=c} {r with recs:=r.recs++[x]}:=by
 have l:=h.lts;have a:=h.ap;subst hm;refine⟨?_,h.wt.kept hg (.inr Ih),h.bk.kept hg (.inr Ih),h.lg.kept hg (.inr Ih),by simp only;omega⟩;have e:recs (r.recs++[x])=recs r.recs++x.cells:=by simp[recs]
 grind
theorem dW.appL {m g c:Nat}{x:List UInt8}(h:dW w lo v r)(hg:w.grownBy w' (some v.gL))(ho:w'.ownsRow lo 9 1 (.slice (some ⟨g,0,none⟩) m c) m (nV r.log++[.string ⟨x.toArray⟩]))(hm:m=r.log.length+1)(hw:g=v.gL\/w.heap.size<=g):
 dW w' lo {v with gL:=g,cL:=c} {r with log:=r.log++[x]}:=by
 have l:=h.lts;have a:=h.ap;subst hm;refine⟨h.rc.kept hg (.inr Ih),h.wt.kept hg (.inr Ih),h.bk.kept hg (.inr Ih),?_,by simp only;omega⟩;have e:nV (r.log++[x])=nV r.log++[.string ⟨x.toArray⟩]:=by simp[nV,txt]
 grind
end
variable {rs:List bV}{i:Nat}{v:aF}
theorem zoV {j:Nat}{f:bV->bV}(hd:rs[i]? =some d)(hj:j<7)(hs:∀k,k<7->k≠j->(f d).cells[k]? =d.cells[k]?)(hv:(f d).cells[j]? =some v):(recs rs).set (i*7+j) v=recs (rs.modify i f):=by
 apply zoC;intro q;obtain⟨a,b,rfl,hb⟩:∃a b,q=a*7+b/\b<7:=⟨q/7,q%7,aC,aC⟩;have g:∀(l:List bV),(recs l)[a*7+b]? =(l[a]?).bind λx=>x.cells[b]? :=λl=>Ox bV.cells (s:=7) (λ_=>rfl) l a b hb;rw[List.getElem?_set,g,g,L3];have hlen:(recs rs).length=rs.length*7:=zyd rs
 grind
theorem zEY (l:Int)(h:rs[k]? =some d):rN (rs.take (k+1)) l=(rN (rs.take k) l||(d.l==l&&eL d)):=by
 unfold rN;rw[Lr,h];simp[List.any_append]
theorem zGM (rs:List bV)(n:Nat):x4 rs (n+1)=x4 rs n++(if rN rs ((n:Int)+1) then[] else[(n:Int)+1]):=by
 unfold x4;rw[List.range_succ,List.map_append,Pp];congr 1;simp only[jD,sC,zq8,List.filter_nil];cases rN rs ((n:Int)+1)<;>simp
theorem zkB (rs:List bV)(n:Nat):(x4 rs n).length<=n:=by
 unfold x4;exact eG (Y6 _ _) aQ
theorem zGT (xs:List Int)(x:Int):jY (xs++[x])=jY xs++[.int .i64 x]:=by simp[jY]
def zEw:(aK.info? 3).map (λi=>(i.zero,i.size,i.bytes))=some (some (.int .i64 0),1,8):=aP
def C9 {o:fP}(h:mY o=true):1<=o.ln/\o.ln<=6/\1<=o.op/\o.op<=4/\1<=o.pt/\o.pt<=60:=of_decide_eq_true h
theorem zwK (lo:Nat)(v:fT)(r:cC)(w:aE)(h:dW w lo v r)(hn:r.recs.length<=100000)(ho:mY r.o=true):
 fJ aK 90 #[.agg (fR v r)] w λe w'=>∃x,e=.returned x/\zkS 3 1 w (o0 r.o r.recs).length (jY (o0 r.o r.recs)) x w':=by
 obtain⟨i0,fN,gA,dS,jQ⟩:=C6 zEw;have HI:=aD (And.intro fN (And.intro gA (And.intro dS jQ)));clear fN gA dS jQ;obtain⟨l0,l1,-,-,-,-⟩:=C9 ho;have hs:=h.slcR;obtain⟨n,Cg⟩:=aT r.recs.length;have zJe:n<=100000:=aC;have HN:=aD Cg;obtain⟨rs,zgD⟩:=aT r.recs;have zJx:=aD zgD;obtain⟨gb,eU⟩:=aT w.heap.size;have fY:=aD eU;obtain⟨ln,y5⟩:=aT r.o.ln;have zqI:=aD y5;obtain⟨m,hm⟩:=aT (ln.toNat:Nat);have Yn:ln=(m:Int):=aC;obtain⟨O,hO⟩:=aT (.cells (fR v r) 59:qQ);have l6:(w.alloc O).heap[gb]? =some (Gi v r):=by rw[hO,eU];exact gV _ _
 have B0:bY w.heap.size w (w.alloc O):=eT (fK _ _) O;have hz:(w.alloc O).heap.size=gb+1:=by rw[eU];simp
 have hF:o0 r.o r.recs=x4 rs m:=by unfold o0;rw[<-y5,<-zgD,<-hm]
 have HF:=aD hF;have Z2:=aI l6 0;rw[<-Cg,<-zgD] at hs;have zDx:=aD l6;have Qy:=aD B0;have HZ:=aD hz;rw[<-y5] at l0 l1;clear hF Cg zgD eU y5 hm h Z2;have HO:=aD hO;have zzJ:=aD Yn;rw[Yn] at l0 l1;clear hO l6 B0 hz
 go_enter Tryz.func90,Tryz.ntmps90
 go_wp2_with fail
 rw[<-HO.o]
 go_loopw [3,4] (λx i wr=>∃(k g L cl:Nat),k<=m/\i=.int .i64 ((k:Int)+1)/\L=(x4 rs k).length/\x=.slice (some ⟨g,0,none⟩) L cl/\bY (gb+1) (w.alloc O) wr/\wr.ownsRow (gb+1) 3 1 (.slice (some ⟨g,0,none⟩) L cl) L (jY (x4 rs k))) (λ_ i _=>1000-(intOf i).toNat)
 case atStart=>
  have hz:=HZ.o;refine⟨0,gb+1,0,0,mK _,aQ,rfl,by rw[fY.o],?_,Qm (bL _) (mH _ _ hz.symm)⟩;rw[<-hz];exact eT (fK _ _) _
 case round=>
  obtain⟨k,g,L,cl,hk,rfl,hL,rfl,B,dF⟩:=hrel;have HL:=aD hL;have Uk:=aD dF;have HB:=aD B;have zzQ:=B.size;have hz:=HZ.o;have qT:=(B.block gb aC).trans zDx.o;have e0:=aI qT 0;have e4:=aI qT 4;have hlen:=zkB rs k;rw[<-hL] at hlen;have Ia:=hs.below (Qy.o.trans (B.mono uU));have Yu:wr.cell? ⟨w.heap.size,0,none⟩=some (.int .i64 (m:Int)):=by rw[<-fY.o,e0,<-zzJ.o,zqI.o];rfl
  have zKE:wr.cell? ⟨w.heap.size,4,none⟩=some (.slice (some ⟨v.gR,0,none⟩) n v.cR):=by rw[<-fY.o,e4,HN.o];rfl
  have zdP:=aD (zGM rs k);have zCm:=aD Ia.recLen;clear hL dF e0 e4 qT B hz hs;by_cases aU:k<m
  .obtain⟨l,hl⟩:=aT ((k:Int)+1:Int)
   have zKv:1<=l:=aC;have zuC:l<=(m:Int):=aC;rw[<-hl] at zdP⊢;have zhQ:=aD hl;clear hl
   go_wp2_with fail
   go_loop [5,6] (λu i=>∃j:Nat,j<=n/\u=.bool (rN (rs.take j) l)/\i=.int .i64 j) (λ_ i=>n-(intOf i).toNat)
   case atStart=>exact⟨0,mK _,rfl,rfl⟩
   case round=>
    obtain⟨j,hj,rfl,rfl⟩:=hrel;by_cases zAH:j<n
    .obtain⟨b,off,d,hA,_,_,h3,fG,gU,qF,Bt,Hd,Im,oL,zgA⟩:=Ia.rec7 zAH
     have HU:=aD (zEY l fG);have i0:(0:Int)<=(j:Int):=aC;have i1:(j:Int)<(n:Int):=aC;injection hA with hA;injection hA with Ab As;subst Ab As;simp only[rL] at qF zgA;clear fG Ia gU Bt Hd Im oL h3;cases hu:rN (rs.take j) l
     .rw[hu] at HU
      cases hq:(d.l==l)
      .have Gk:=aD (show rN (rs.take (j+1)) l=false by rw[HU.o,hq];rfl)
       go_wp2
       go_round
       case rel=>exact⟨j+1,aC,by rw[Gk.o],qJ⟩
       case measure=>simp[intOf];omega
      .cases hd:(d.e.toList==[111,112,101,110])
       .have Gk:=aD (show rN (rs.take (j+1)) l=false by rw[HU.o,hq];unfold eL;rw[hd];rfl)
        go_wp2
        go_round
        case rel=>exact⟨j+1,aC,by rw[Gk.o],qJ⟩
        case measure=>simp[intOf];omega
       .have Gk:=aD (show rN (rs.take (j+1)) l=true by rw[HU.o,hq];unfold eL;rw[hd];rfl)
        go_wp2
        go_round
        case rel=>exact⟨j+1,aC,by rw[Gk.o],qJ⟩
        case measure=>simp[intOf];omega
     .rw[hu] at HU
      have Gk:=aD (show rN (rs.take (j+1)) l=true by rw[HU.o];rfl);clear qF zgA;go_wp2
      go_round
      case rel=>exact⟨j+1,aC,by rw[Gk.o],qJ⟩
      case measure=>simp[intOf];omega
    .have e:j=n:=aC
     subst e;have HT:=aD (show rs.take j=rs by rw[zV (by rw[zCm.o];exact bL _)]);rw[HT.o];clear Ia;obtain⟨u,hu⟩:=aT (rN rs l);rw[<-hu] at zdP⊢;clear hu;cases u
     .have Gk:=aD (show x4 rs (k+1)=x4 rs k++[l] by rw[zdP.o];rfl)
      obtain⟨fN,gA,dS,jQ⟩:=HI.o;have HH:=aD fN;have zfC:=HZ.o;clear fN
      go_wp2_with (at_builtin;refine zpi _ rfl (.tmp 44) (.tmp 46) 38 rfl (gb+1) 3 i0 (.int .i64 0) 1 8 Tryz.underlying38 HH.o gA dS jQ rfl aH (.slice (some ⟨g,0,none⟩) L cl) L (jY (x4 rs k)) rfl (Bn Uk.o ?c1) aQ ⟨_,0,none⟩ 1 1 [.int .i64 l] rfl rfl ?c2 Oj ?c5 ?c6 ?c7 ?_;(case c1=>exact λb hb=>sV _ _ b hb);(case c2=>exact Gl (cs:=#[.int .i64 l]) (mH _ _ aQ));(case c5=>unfold maxLen;omega);(case c6=>omega);(case c7=>(simp;omega));intro g1 c1 w1 tK r8 B1;have Dg:=aD tK;have gT:=aD B1;clear tK r8 B1)
      go_roundw
      case rel=>
       refine⟨k+1,g1,L+1,c1,aC,by rw[zhQ.o];push_cast;rfl,by rw[Gk.o,HL.o];simp,rfl,?_,?_⟩
       .have b1:=HB.o
        exact(b1.alloc aC _).trans gT.o
       .rw[Gk.o,zGT];exact Dg.o
      case measure=>have:=zhQ.o;simp[intOf];omega
     .have Gk:=aD (show x4 rs (k+1)=x4 rs k by rw[zdP.o];simp)
      go_wp2;go_roundw
      case rel=>exact⟨k+1,g,L,cl,aC,by rw[zhQ.o];push_cast;rfl,by rw[Gk.o];exact HL.o,rfl,HB.o,by rw[Gk.o];exact Uk.o⟩
      case measure=>have:=zhQ.o;simp[intOf];omega
  .have e:k=m:=aC
   subst e;clear Ia;go_wp2;go_ret;refine⟨_,rfl,g,cl,by rw[HF.o,<-HL.o];rfl,?_,Qy.o.trans (HB.o.mono (by have:=fY.o;omega))⟩;rw[HF.o,<-HL.o];obtain⟨h1,h2⟩:=Uk.o;refine⟨h1,h2.imp id λ⟨b,cap,cur,e1,e2,e3⟩=>⟨b,cap,cur,e1,by have:=fY.o;omega,e3⟩⟩
variable {xs:List aF}{s:Nat}
theorem cE.takeS {g:Nat}(h:cE w lo hi s (some ⟨g,0,none⟩) n c xs)(hk:k<=n):cE w lo hi s (some ⟨g,0,none⟩) k c (xs.take (k*s)):=by
 refine⟨by rw[qO,h.len];exact Nat.min_eq_left (Cf _ hk),eG hk h.le,h.cap,λh0=>?_⟩;obtain⟨b,off,e,h1,h2,h3,h4⟩:=h.at_ aC;refine⟨b,off,e,h1,h2,h3,λj v hv=>h4 j v ?_⟩;rw[List.getElem?_take] at hv;split at hv
 .exact hv
 .cases hv
theorem cE.dropS {g:Nat}(h:cE w lo hi s (some ⟨g,0,none⟩) n c xs)(hk:k<=n):cE w lo hi s (some ⟨g,k*s,none⟩) (n-k) (c-k) (xs.drop (k*s)):=by
 refine⟨by rw[x5,h.len,Nat.sub_mul],by have:=h.le;omega,by have:=h.cap;omega,λh0=>?_⟩;obtain⟨b,off,e,h1,h2,h3,h4⟩:=h.at_ aC;injection e with e;injection e with e1 e2;subst e1 e2;refine⟨g,k*s,rfl,h1,h2,h3,λj v hv=>?_⟩;rw[List.getElem?_drop] at hv;have:=h4 (k*s+j) v hv
 rwa [rL] at this
theorem cE.dropI {g:Nat}(h:cE w lo hi s (some ⟨g,0,none⟩) n c xs)(hk:k<=n):cE w lo hi s (if c=k then some ⟨g,0,none⟩ else some ⟨g,k*s,none⟩) (n-k) (c-k) (xs.drop (k*s)):=by
 have d:=h.dropS hk;by_cases e:c=k
 .rw[if_pos e]
  exact⟨d.len,d.le,d.cap,λh0=>by have:=h.le;omega⟩
 .simp_all
theorem zxb (xs:List bN)(k:Nat):(bH xs).take (k*2)=bH (xs.take k):=by
 induction xs generalizing k with
 |nil=>simp[bH]
 |cons x xs ih=>
  cases k with
  |zero=>simp[bH]
  |succ k=>
   have e:(k+1)*2=k*2+1+1:=aC;rw[e];simp only[bH,Pl,bN.cells,Sd,zfV,List.take_succ_cons];have:=ih k;unfold bH at this;rw[this]
theorem zsc (xs:List bN)(k:Nat):(bH xs).drop (k*2)=bH (xs.drop k):=by
 induction xs generalizing k with
 |nil=>simp[bH]
 |cons x xs ih=>
  cases k with
  |zero=>simp[bH]
  |succ k=>
   have e:(k+1)*2=k*2+1+1:=aC;rw[e];simp only[bH,Pl,bN.cells,Sd,zfV,List.drop_succ_cons];have:=ih k;unfold bH at this;rw[this]
theorem zpC (xs ys:List bN):bH (xs++ys)=bH xs++bH ys:=by simp[bH]
theorem Zu (xs:List bN):∀u∈bH xs,u.oneCell'=true:=by
 intro u hu;obtain⟨d,_,hd⟩:=List.mem_flatMap.1 hu;simp only[bN.cells,List.mem_cons,List.not_mem_nil,or_false] at hd;rcases hd with rfl|rfl<;>rfl
theorem zsF {xs:List bN}{x:bN}(hk:k<=xs.length)(h:∀j,j<k->∀b,xs[j]? =some b->x.p<=b.p)(hn:∀b,xs[k]? =some b->¬x.p<=b.p):uE xs x=xs.take k++x::xs.drop k:=by
 unfold uE
 induction xs generalizing k with
 |nil=>simp
 |cons y ys ih=>
  cases k with
  |zero=>simp_all
  |succ k=>
   have hy:=h 0 aC y rfl;have:=ih (k:=k) (by simpa using hk) (λj hj b hb=>h (j+1) aC b zg6) (λb hb=>hn b zg6);simp[List.takeWhile_cons,List.dropWhile_cons,hy,this]
def zgt {W:aE}(h:W.cell? a1=some v1/\W.cell? a2=some v2/\bY W0.heap.size W0 W):bY W0.heap.size W0 W:=h.2.2
variable {u:aF}
def zwX {a b:bC}(h:w.cell? a=some u)(k:w.cell? b=some v):w.cell? a=some u/\w.cell? b=some v:=⟨h,k⟩
theorem zFG (lo hi n c g:Nat)(xs:List bN)(x:bN)(w:aE)(h:cE w lo hi 2 (some ⟨g,0,none⟩) n c (bH xs))(hn:n<=100000):
 fJ aK 93 #[.slice (some ⟨g,0,none⟩) n c,.agg #[.int .i64 x.c,.int .i64 x.p]] w λe w'=>∃v,e=.returned v/\zkS 100 2 w (uE xs x).length (bH (uE xs x)) v w':=by
 have hl:=aD h.callsLen;have zqO:=aD h.le;obtain⟨i0,fN,gA,dS,jQ⟩:=C6 zht;have HI:=aD (And.intro fN (And.intro gA (And.intro dS jQ)));clear fN gA dS jQ;obtain⟨gb,eU⟩:=aT w.heap.size;have fY:=aD eU;obtain⟨O,hO⟩:=aT (.cells #[.int .i64 x.c,.int .i64 x.p] 100:qQ);have l6:(w.alloc O).heap[gb]? =some (.cells #[.int .i64 x.c,.int .i64 x.p] 100):=by rw[hO,eU];exact gV _ _
 have zG:=aD l6;have Qy:=aD (eT (fK w.heap.size w) O);have HO:=aD hO;clear eU hO l6
 go_enter Tryz.func93,Tryz.ntmps93
 go_wp2_with fail
 rw[<-HO.o,<-fY.o]
 go_loopw [5] (λi wr=>∃k:Nat,k<=n/\i=.int .i64 k/\bY (w.alloc O).heap.size (w.alloc O) wr/\∀j,j<k->∀b,xs[j]? =some b->x.p<=b.p) (λi _=>n-(intOf i).toNat)
 case atStart=>exact⟨0,mK _,rfl,fK _ _,λj hj=>absurd hj aC⟩
 case round=>
  obtain⟨k,hk,rfl,B,gJ⟩:=hrel;have HC:=aD gJ;have kg:=(mX B zG.o).1;have zg:=(mX B zG.o).2;have e0:=aI kg 0;have e1:=aI kg 1;have BW:=Qy.o.trans (B.mono Qy.o.size);have hs:=h.below BW;have zHs:(0:Int)<=(k:Int):=aC;have Kn:=aD BW;have HB:=aD B;clear gJ kg BW B;by_cases aU:k<n
  .obtain⟨b,off,d,hA,_,_,h3,fG,gU,qF⟩:=hs.callsAt aU
   injection hA with hA;injection hA with Ab As;subst Ab As;simp only[rL] at gU qF;have HX:=aD fG;have i1:(k:Int)<(n:Int):=aC;by_cases hp:x.p<=d.p
   .have HP:=aD hp
    have zGl:decide (x.p<=d.p)=true:=decide_eq_true hp;clear fG h hs h3 gU hp
    go_wp2_with fail
    go_quiet (fail)
    go_wp2;go_roundw
    case rel=>exact⟨k+1,aC,qJ,⟨HB.o.os,HB.o.tape,HB.o.output,HB.o.size,HB.o.block⟩,λj hj b hb=>by
     by_cases e:j=k
     .subst e;rw[HX.o] at hb;injection hb with hb;exact hb▸HP.o
     .exact HC.o j aC b hb⟩
    case measure=>simp[intOf];omega
   .have HQ:=aD (zsF (x:=x) (k:=k) tL HC.o (λb hb=>by simp_all))
    have zGl:decide (x.p<=d.p)=false:=decide_eq_false hp;clear fG h3 gU hp
    go_wp2_with fail
    go_quiet (fail)
    go_wp2_with fail
    obtain⟨wq,tN⟩:=aT (wr.drewN nq);rw[<-tN];replace hs:cE wq lo hi 2 (some ⟨g,0,none⟩) n c (bH xs):=by rw[tN];exact⟨hs.len,hs.le,hs.cap,hs.at_⟩
    replace e0:wq.cell? ⟨gb,0,none⟩=some (.int .i64 x.c):=by rw[tN];exact e0
    replace e1:wq.cell? ⟨gb,1,none⟩=some (.int .i64 x.p):=by rw[tN];exact e1
    replace zg:gb<wq.heap.size:=by rw[tN];exact zg
    have zde:=aD (show bY w.heap.size w wq by rw[tN];exact⟨Kn.o.os,Kn.o.tape,Kn.o.output,Kn.o.size,Kn.o.block⟩);have zCl:=aD (show wr.heap.size<=wq.heap.size by simp_all);clear tN;have HN:=aD (bL wq.heap.size);have E6:=aD (zxb xs k▸hs.takeS hk);have Rl:=aD (zsc xs k▸hs.dropI hk);have zwD:=aD zg;obtain⟨fN,gA,dS,jQ⟩:=HI.o;have HH:=aD fN;have nX:=zqO.o;have zai:=aD (zwX e0 e1);have k1:(k:Int)<=(n:Int):=aC;have k2:(n:Int)<=(c:Int):=aC;have k3:(k:Int)<=(c:Int):=aC;clear fN hs h
    go_region_held3 (λW=>W.cell? ⟨gb,0,none⟩=some (.int .i64 x.c)/\W.cell? ⟨gb,1,none⟩=some (.int .i64 x.p)/\bY wq.heap.size wq W)
     ((refine zpp zec zec zai.o.1 zai.o.2 ?_;(repeat' (first|with_reducible assumption|with_reducible exact zgt Mh|with_reducible exact fK _ _|with_reducible apply eT|with_reducible apply zbm));done))
     (first
      |(refine zeF _ rfl (.tmp 22) (.tmp 25) 57 rfl wq.heap.size 100 i0 (.agg #[.int .i64 0,.int .i64 0]) 2 16 Kh HH.o gA dS jQ rfl aH _ 0 0 [] rfl (Qm ?c1 ?c2) (some ⟨g,0,none⟩) k c _ _ (bH (xs.take k)) rfl (E6.o.below ?c3) (Zu _) ?c5 ?c6 ?c7 ?_;(case c1=>first|omega|(simp;done)|(simp;omega));(case c2=>((try with_reducible apply Mo);(first|with_reducible assumption|(with_reducible refine mH _ _ ?_;simp)|(with_reducible refine dH ?_ _;first|with_reducible assumption|(with_reducible refine mH _ _ ?_;simp))|(with_reducible refine dH ?_ _;with_reducible refine dH ?_ _;first|with_reducible assumption|(with_reducible refine mH _ _ ?_;simp))|(with_reducible refine dH ?_ _;with_reducible refine dH ?_ _;with_reducible refine dH ?_ _;first|with_reducible assumption|(with_reducible refine mH _ _ ?_;simp)))));(case c3=>(repeat' (first|with_reducible assumption|with_reducible exact zgt Mh|with_reducible exact fK _ _|with_reducible apply eT|with_reducible apply zbm)));(case c5=>unfold maxLen;omega);(case c6=>omega);(case c7=>first|omega|(simp;done)|(simp;omega));intro g1 ziY w9 tK r8 B1;rw[rL];simp only[rL,zfV] at tK;have Dg:=aD tK;have qY:=aD r8;have BW:bY wq.heap.size wq w9:=bY.trans uU B1;have z9:=BW.size;clear tK r8 B1)
      |(refine zt5 _ rfl (.tmp 26) (.tmp 28) 57 rfl wq.heap.size 100 i0 (.agg #[.int .i64 0,.int .i64 0]) 2 16 Kh HH.o gA dS jQ rfl aH (.slice (some ⟨g1,0,none⟩) k ziY) k (bH (xs.take k)) rfl ?c1 aQ ⟨_,0,none⟩ 1 1 [.int .i64 x.c,.int .i64 x.p] rfl rfl (Gl (cs:=#[.int .i64 x.c,.int .i64 x.p]) (t:=100) (fr:=(0,0)) ?c2) (by simp[zr1]) ?c5 ?c6 ?c7 ?_;(case c1=>first|exact Dg.o|exact Bn Dg.o (λb hb=>sV _ _ b hb));(case c2=>first|exact gV _ _|exact(qY.o.block _ zej zvQ).trans (by((try with_reducible apply Mo);(first|with_reducible assumption|(with_reducible refine mH _ _ ?_;simp)|(with_reducible refine dH ?_ _;first|with_reducible assumption|(with_reducible refine mH _ _ ?_;simp))|(with_reducible refine dH ?_ _;with_reducible refine dH ?_ _;first|with_reducible assumption|(with_reducible refine mH _ _ ?_;simp))|(with_reducible refine dH ?_ _;with_reducible refine dH ?_ _;with_reducible refine dH ?_ _;first|with_reducible assumption|(with_reducible refine mH _ _ ?_;simp))))));(case c5=>unfold maxLen;omega);(case c6=>omega);(case c7=>first|omega|(simp;done)|(simp;omega));intro g2 zi4 qH zba znp B2;have zbt:=aD zba;have Uz:bY wq.heap.size wq qH:=bY.trans (by first|exact BW|exact eT BW _) B2;have zBA:=Uz.size;clear zba znp B2)
      |(refine zeF _ rfl (.tmp 29) (.tmp 32) 57 rfl wq.heap.size 100 i0 (.agg #[.int .i64 0,.int .i64 0]) 2 16 Kh HH.o gA dS jQ rfl aH g2 (k+1) zi4 (bH (xs.take k)++[.int .i64 x.c,.int .i64 x.p]) rfl zbt.o (if c=k then some ⟨g,0,none⟩ else some ⟨g,k*2,none⟩) (n-k) (c-k) _ _ (bH (xs.drop k)) rfl (Rl.o.below Uz) (Zu _) ?c5 ?c6 ?c7 ?_;(case c5=>unfold maxLen;omega);(case c6=>omega);(case c7=>first|omega|(simp;done)|(simp;omega));intro g3 zmW z8 zbu zlj B3;have Y9:=aD zbu;have zc1:bY wq.heap.size wq z8:=Uz.trans B3;have zDS:=zc1.size;clear zbu zlj B3))
    all_goals go_wp2_with fail
    all_goals go_ret
    all_goals
     have zfC:=zde.o.size;have eQ:(uE xs x).length=k+1+(n-k):=by
      rw[HQ.o,jZ,qO,wL,x5,hl.o];omega
     refine⟨_,rfl,g3,zmW,?_,?_,zde.o.trans (zc1.mono zfC)⟩
     .rw[eQ];rfl
     .obtain⟨h1,h2⟩:=Y9.o
      have e:=eQ;have e2:bH (uE xs x)=bH (xs.take k)++[.int .i64 x.c,.int .i64 x.p]++bH (xs.drop k):=by rw[HQ.o,zpC];simp[bH,bN.cells]
      rw[e,e2];exact⟨h1,h2.imp id λ⟨b,cap,cur,e1,e2,e3⟩=>⟨b,cap,cur,e1,aC,e3⟩⟩
  .have HQ:=aD (zsF (x:=x) (k:=k) (by rw[hl.o];exact hk) HC.o (λb hb=>by rw[O0 (by rw[hl.o];omega)] at hb;cases hb))
   have oF:decide ((k:Int)<(n:Int))=false:=decide_eq_false aC
   go_wp2_with fail
   go_quiet (fail)
   go_wp2_with fail
   obtain⟨wq,tN⟩:=aT (wr.drewN nq);rw[<-tN];replace hs:cE wq lo hi 2 (some ⟨g,0,none⟩) n c (bH xs):=by rw[tN];exact⟨hs.len,hs.le,hs.cap,hs.at_⟩
   replace e0:wq.cell? ⟨gb,0,none⟩=some (.int .i64 x.c):=by rw[tN];exact e0
   replace e1:wq.cell? ⟨gb,1,none⟩=some (.int .i64 x.p):=by rw[tN];exact e1
   replace zg:gb<wq.heap.size:=by rw[tN];exact zg
   have zde:=aD (show bY w.heap.size w wq by rw[tN];exact⟨Kn.o.os,Kn.o.tape,Kn.o.output,Kn.o.size,Kn.o.block⟩);have zCl:=aD (show wr.heap.size<=wq.heap.size by simp_all);clear tN;have HN:=aD (bL wq.heap.size);have E6:=aD (zxb xs k▸hs.takeS hk);have Rl:=aD (zsc xs k▸hs.dropI hk);have zwD:=aD zg;obtain⟨fN,gA,dS,jQ⟩:=HI.o;have HH:=aD fN;have nX:=zqO.o;have zai:=aD (zwX e0 e1);have k1:(k:Int)<=(n:Int):=aC;have k2:(n:Int)<=(c:Int):=aC;have k3:(k:Int)<=(c:Int):=aC;clear fN hs h
   go_region_held3 (λW=>W.cell? ⟨gb,0,none⟩=some (.int .i64 x.c)/\W.cell? ⟨gb,1,none⟩=some (.int .i64 x.p)/\bY wq.heap.size wq W)
    ((refine zpp zec zec zai.o.1 zai.o.2 ?_;(repeat' (first|with_reducible assumption|with_reducible exact zgt Mh|with_reducible exact fK _ _|with_reducible apply eT|with_reducible apply zbm));done))
    (first
     |(refine zeF _ rfl (.tmp 22) (.tmp 25) 57 rfl wq.heap.size 100 i0 (.agg #[.int .i64 0,.int .i64 0]) 2 16 Kh HH.o gA dS jQ rfl aH _ 0 0 [] rfl (Qm ?c1 ?c2) (some ⟨g,0,none⟩) k c _ _ (bH (xs.take k)) rfl (E6.o.below ?c3) (Zu _) ?c5 ?c6 ?c7 ?_;(case c1=>first|omega|(simp;done)|(simp;omega));(case c2=>((try with_reducible apply Mo);(first|with_reducible assumption|(with_reducible refine mH _ _ ?_;simp)|(with_reducible refine dH ?_ _;first|with_reducible assumption|(with_reducible refine mH _ _ ?_;simp))|(with_reducible refine dH ?_ _;with_reducible refine dH ?_ _;first|with_reducible assumption|(with_reducible refine mH _ _ ?_;simp))|(with_reducible refine dH ?_ _;with_reducible refine dH ?_ _;with_reducible refine dH ?_ _;first|with_reducible assumption|(with_reducible refine mH _ _ ?_;simp)))));(case c3=>(repeat' (first|with_reducible assumption|with_reducible exact zgt Mh|with_reducible exact fK _ _|with_reducible apply eT|with_reducible apply zbm)));(case c5=>unfold maxLen;omega);(case c6=>omega);(case c7=>first|omega|(simp;done)|(simp;omega));intro g1 ziY w9 tK r8 B1;rw[rL];simp only[rL,zfV] at tK;have Dg:=aD tK;have qY:=aD r8;have BW:bY wq.heap.size wq w9:=bY.trans uU B1;have z9:=BW.size;clear tK r8 B1)
     |(refine zt5 _ rfl (.tmp 26) (.tmp 28) 57 rfl wq.heap.size 100 i0 (.agg #[.int .i64 0,.int .i64 0]) 2 16 Kh HH.o gA dS jQ rfl aH (.slice (some ⟨g1,0,none⟩) k ziY) k (bH (xs.take k)) rfl ?c1 aQ ⟨_,0,none⟩ 1 1 [.int .i64 x.c,.int .i64 x.p] rfl rfl (Gl (cs:=#[.int .i64 x.c,.int .i64 x.p]) (t:=100) (fr:=(0,0)) ?c2) (by simp[zr1]) ?c5 ?c6 ?c7 ?_;(case c1=>first|exact Dg.o|exact Bn Dg.o (λb hb=>sV _ _ b hb));(case c2=>first|exact gV _ _|exact(qY.o.block _ zej zvQ).trans (by((try with_reducible apply Mo);(first|with_reducible assumption|(with_reducible refine mH _ _ ?_;simp)|(with_reducible refine dH ?_ _;first|with_reducible assumption|(with_reducible refine mH _ _ ?_;simp))|(with_reducible refine dH ?_ _;with_reducible refine dH ?_ _;first|with_reducible assumption|(with_reducible refine mH _ _ ?_;simp))|(with_reducible refine dH ?_ _;with_reducible refine dH ?_ _;with_reducible refine dH ?_ _;first|with_reducible assumption|(with_reducible refine mH _ _ ?_;simp))))));(case c5=>unfold maxLen;omega);(case c6=>omega);(case c7=>first|omega|(simp;done)|(simp;omega));intro g2 zi4 qH zba znp B2;have zbt:=aD zba;have Uz:bY wq.heap.size wq qH:=bY.trans (by first|exact BW|exact eT BW _) B2;have zBA:=Uz.size;clear zba znp B2)
     |(refine zeF _ rfl (.tmp 29) (.tmp 32) 57 rfl wq.heap.size 100 i0 (.agg #[.int .i64 0,.int .i64 0]) 2 16 Kh HH.o gA dS jQ rfl aH g2 (k+1) zi4 (bH (xs.take k)++[.int .i64 x.c,.int .i64 x.p]) rfl zbt.o (if c=k then some ⟨g,0,none⟩ else some ⟨g,k*2,none⟩) (n-k) (c-k) _ _ (bH (xs.drop k)) rfl (Rl.o.below Uz) (Zu _) ?c5 ?c6 ?c7 ?_;(case c5=>unfold maxLen;omega);(case c6=>omega);(case c7=>first|omega|(simp;done)|(simp;omega));intro g3 zmW z8 zbu zlj B3;have Y9:=aD zbu;have zc1:bY wq.heap.size wq z8:=Uz.trans B3;have zDS:=zc1.size;clear zbu zlj B3))
   all_goals go_wp2_with fail
   all_goals go_ret
   all_goals
    have zfC:=zde.o.size;have eQ:(uE xs x).length=k+1+(n-k):=by
     rw[HQ.o,jZ,qO,wL,x5,hl.o];omega
    refine⟨_,rfl,g3,zmW,?_,?_,zde.o.trans (zc1.mono zfC)⟩
    .rw[eQ];rfl
    .obtain⟨h1,h2⟩:=Y9.o
     have e:=eQ;have e2:bH (uE xs x)=bH (xs.take k)++[.int .i64 x.c,.int .i64 x.p]++bH (xs.drop k):=by rw[HQ.o,zpC];simp[bH,bN.cells]
     rw[e,e2];exact⟨h1,h2.imp id λ⟨b,cap,cur,e1,e2,e3⟩=>⟨b,cap,cur,e1,aC,e3⟩⟩
theorem zgI (l:List α)(i:Nat)(f g:α->α):(l.modify i f).modify i g=l.modify i (λx=>g (f x)):=by
 apply zoC;intro j;rw[L3,L3,L3];by_cases e:i=j
 .simp[e,Function.comp_def]
 .simp[e]
variable {v:fT}{r:cC}
theorem dW.setR {j:Nat}(f:bV->bV)(h:dW w lo v r)(hd:r.recs[i]? =some d)(hj:j<7)(hs:∀k,k<7->k≠j->(f d).cells[k]? =d.cells[k]?)(hv:(f d).cells[j]? =some u):
 dW (w.setCell ⟨v.gR,i*7+j,none⟩ u) lo v {r with recs:=r.recs.modify i f}/\oV v w (w.setCell ⟨v.gR,i*7+j,none⟩ u):=by
 obtain⟨h1,hg⟩:=h.rc.stored (i*7+j) u;rw[zoV hd hj hs hv] at h1;have a:=h.ap;refine⟨⟨?_,h.wt.kept hg (.inr Ih),h.bk.kept hg (.inr Ih),h.lg.kept hg (.inr Ih),a⟩,⟨hg.os,hg.tape,hg.output,hg.size,λb hb h1 _=>hg.block b hb (λe=>h1 (by injection e))⟩⟩;simp only[fT.sR,Lj];exact h1
theorem dW.recAt (h:dW w lo v r)(hd:r.recs[i]? =some d):
 w.cell? ⟨v.gR,i*7,none⟩=some (.int .i64 d.c)/\w.cell? ⟨v.gR,i*7+1,none⟩=some (.int .i64 d.l)/\w.cell? ⟨v.gR,i*7+2,none⟩=some (.int .i64 d.o)/\w.cell? ⟨v.gR,i*7+3,none⟩=some (.int .i64 d.f)/\w.cell? ⟨v.gR,i*7+4,none⟩=some (.int .i64 d.h)/\w.cell? ⟨v.gR,i*7+5,none⟩=some (.int .i64 d.t)/\w.cell? ⟨v.gR,i*7+6,none⟩=some (.string d.e):=by
 have hi:=(l8.1 hd).1;have g:∀j,j<7->w.cell? ⟨v.gR,i*7+j,none⟩=d.cells[j]? :=λj hj=>by
  rw[h.rc.cellAt (i*7+j) aC];have:=Ox bV.cells (s:=7) (λ_=>rfl) r.recs i j hj;unfold recs;rw[this,hd];rfl
 exact⟨g 0 aH,g 1 aH,g 2 aH,g 3 aH,g 4 aH,g 5 aH,g 6 aH⟩
variable {b:Nat}{w':aE}
def oV.blk {o:qQ}(h:oV v w w')(hb:w.heap[b]? =some o)(h1:b≠v.gR)(h2:b≠v.gB):w'.heap[b]? =some o:=(h.block b (iR hb) h1 h2).trans hb
theorem Ur (h:rs[i]? =some d):Hu rs i=d.c:=by unfold Hu;rw[h]
theorem Cb {E:Nat}{base n g c:Nat}(h:w.ownsRow base E s (.slice (some ⟨g,0,none⟩) n c) n xs)(hb:w'.heap[g]? =w.heap[g]?):w'.ownsRow base E s (.slice (some ⟨g,0,none⟩) n c) n xs:=by
 obtain⟨hl,h|⟨b,cap,cur,e,h1,hg,h2⟩⟩:=h
 .cases h.1
 .injection e with e
  injection e with e;injection e with e;subst e;exact⟨hl,.inr ⟨g,cap,cur,by simp_all,h1,hb.trans hg,h2⟩⟩
def zhf {base base':Nat}{e:aN}{size:Nat}{v:aF}(h:w.ownsRow base e size v n xs)(hb:base'<=base):w.ownsRow base' e size v n xs:=
 ⟨h.1,h.2.imp id λ⟨g,cap,cur,h1,h2,h3⟩=>⟨g,cap,cur,h1,eG hb h2,h3⟩⟩
theorem zHV (v:fT)(r:cC)(i g cp:Nat)(e:ByteArray):(fR v r).setIfInBounds 5 (.slice (some ⟨g,0,none⟩) (dZ r.wait (Hu r.recs i)).length cp)=fR {v with gW:=g,cW:=cp} (lN r i e):=by
 have h:(lN r i e).recs.length=r.recs.length:=Lj _ _ _;simp only[fR,fT.sR,h];rfl
def gQ (w:aE)(b:Nat)(a0 a1 a2 a3 a4 a5 a6 a7:aF):World:=(((((((w.setCell ⟨b,0,none⟩ a0).setCell ⟨b,1,none⟩ a1).setCell ⟨b,2,none⟩ a2).setCell ⟨b,3,none⟩ a3).setCell ⟨b,4,none⟩ a4).setCell ⟨b,5,none⟩ a5).setCell ⟨b,6,none⟩ a6).setCell ⟨b,7,none⟩ a7
variable {a1 a2 a0 a3 a4 a5 a6 a7:aF}{T:aN}
theorem zdi {z0 z1 z2 z3 z4 z5 z6 z7:aF}(h:w.heap[b]? =some (.cells #[z0,z1,z2,z3,z4,z5,z6,z7] T)):(gQ w b a0 a1 a2 a3 a4 a5 a6 a7).heap[b]? =some (.cells #[a0,a1,a2,a3,a4,a5,a6,a7] T):=by
 unfold gQ;rw[oQ (oQ (oQ (oQ (oQ (oQ (oQ (oQ h a0) a1) a2) a3) a4) a5) a6) a7];simp only[List.setIfInBounds_toArray,List.set_cons_zero,List.set_cons_succ]
theorem Hq {x:Nat}(h:x≠b):(gQ w b a0 a1 a2 a3 a4 a5 a6 a7).heap[x]? =w.heap[x]? :=by
 unfold gQ;rw[dU _ _ _ x h,dU _ _ _ x h,dU _ _ _ x h,dU _ _ _ x h,dU _ _ _ x h,dU _ _ _ x h,dU _ _ _ x h,dU _ _ _ x h]
theorem zli (w:aE)(b:Nat)(a0 a1 a2 a3 a4 a5 a6 a7:aF):(gQ w b a0 a1 a2 a3 a4 a5 a6 a7).heap.size=w.heap.size:=by
 unfold gQ;simp only[wR]
def zfi (w:aE)(b:Nat)(a0 a1 a2 a3 a4 a5 a6 a7:aF):Chg b (b+1) w (gQ w b a0 a1 a2 a3 a4 a5 a6 a7):=
 ((((((((Chg.refl b (b+1) w).setCell (p:=⟨b,0,none⟩) (bL _) (yB _) a0).setCell (p:=⟨b,1,none⟩) (bL _) (yB _) a1).setCell (p:=⟨b,2,none⟩) (bL _) (yB _) a2).setCell (p:=⟨b,3,none⟩) (bL _) (yB _) a3).setCell (p:=⟨b,4,none⟩) (bL _) (yB _) a4).setCell (p:=⟨b,5,none⟩) (bL _) (yB _) a5).setCell (p:=⟨b,6,none⟩) (bL _) (yB _) a6).setCell (p:=⟨b,7,none⟩) (bL _) (yB _) a7
def dW.set8 (h:dW w lo v r)(hb:b≠v.gR/\b≠v.gW/\b≠v.gB/\b≠v.gL):dW (gQ w b a0 a1 a2 a3 a4 a5 a6 a7) lo v r:=
 ⟨Cb h.rc (Hq (Ne.symm hb.1)),Cb h.wt (Hq (Ne.symm hb.2.1)),Cb h.bk (Hq (Ne.symm hb.2.2.1)),Cb h.lg (Hq (Ne.symm hb.2.2.2)),h.ap⟩
def oV.set8 {w0:aE}(h:oV v w0 w)(hb:w0.heap.size<=b):oV v w0 (gQ w b a0 a1 a2 a3 a4 a5 a6 a7):=
 have c:=zfi w b a0 a1 a2 a3 a4 a5 a6 a7
 ⟨c.os.trans h.os,c.tape.trans h.tape,c.output.trans h.output,eG h.size c.size,λx hx h1 h2=>(Hq aC).trans (h.block x hx h1 h2)⟩
abbrev kO:Obj:=.cells #[.int .i64 0,.int .i64 0,.int .i64 0,.int .i64 0,.slice none 0 0,.slice none 0 0,.slice none 0 0,.slice none 0 0] 59
theorem zoi (lo i:Nat)(v:fT)(r:cC)(d:bV)(e:ByteArray)(w:aE)(h:dW w lo v r)(hd:r.recs[i]? =some d)(hn:r.recs.length<=100000)(L2:r.wait.length<=100000)(eF:lo<=w.heap.size):
 fJ aK 96 #[.agg (fR v r),.int .i64 (i:Int),.string e] w λx w'=>∃g c,x=.returned (.agg (fR {v with gW:=g,cW:=c} (lN r i e)))/\dW w' lo {v with gW:=g,cW:=c} (lN r i e)/\oV v w w'/\w.heap.size<=g:=by
 obtain⟨gb,eU⟩:=aT w.heap.size;have hl:=h.lts;have hi:=(l8.1 hd).1;obtain⟨O,hO⟩:=aT (.cells (fR v r) 59:qQ);obtain⟨Z,hZ⟩:=aT (kO:qQ);have l6:((w.alloc O).alloc Z).heap[gb]? =some (.cells (fR v r) 59):=by rw[hO,eU];exact dH (gV _ _) _
 have rJ:((w.alloc O).alloc Z).heap[gb+1]? =some kO:=by rw[<-hZ];exact mH _ _ Ws
 have kG:=(h.alloc O).alloc Z;have T1:oV v w ((w.alloc O).alloc Z):=oV.of_below v (eT (eT (fK _ _) _) _);have zG:=aD l6;have zdC:=aD rJ;have jE:=aD kG;have E6:=aD T1;have HO:=aD hO;have HZ:=aD (show Z=.cells #[.int .i64 0,.int .i64 0,.int .i64 0,.int .i64 0,.slice none 0 0,.slice none 0 0,.slice none 0 0,.slice none 0 0] 59 from hZ);have fY:=aD eU;have HD:=aD hd;clear hO hZ eU l6 rJ kG T1 hd h;have i0:(0:Int)<=(i:Int):=aC;have i1:(i:Int)<(r.recs.length:Int):=aC
 go_enter Tryz.func96,Tryz.ntmps96
 go_upto_region 1 with fail
 rw[<-HO.o,<-HZ.o,<-fY.o];obtain⟨W1,cV⟩:=aT ((w.alloc O).alloc Z);have dS:W1.heap.size=gb+2:=by rw[cV,fY.o];simp
 rw[<-cV] at zG zdC jE E6⊢;have pT:=aD dS;have Mn:gb≠v.gR:=by have:=fY.o;omega
 have zS:gb≠v.gB:=by have:=fY.o;omega
 have Q5:gb+1≠v.gR:=by have:=fY.o;omega
 have zdD:gb+1≠v.gB:=by have:=fY.o;omega
 clear cV dS;have k:=aI zG.o;obtain⟨c0,c1,c2,c3,c4,c5,c6⟩:=jE.o.recAt HD.o;have fz:=λj=>jE.o.rc.frozenAt j;have k3:=k 3;have k4:=k 4;have S1:=jE.o.setR (λd=>{d with t:=r.clk}) HD.o (j:=5) aH ztr rfl;have l5:=aD S1;clear S1 k
 go_upto_region 2 with fail
 obtain⟨W2,oE⟩:=aT (W1.setCell ⟨v.gR,i*7+5,none⟩ (.int .i64 r.clk));rw[<-oE] at l5⊢;have Az:(r.recs.modify i λd=>{d with t:=r.clk})[i]? =some {d with t:=r.clk}:=by rw[L3];simp[HD.o]
 have Xm:=aD Az;have zoF:=aD (l5.o.2.blk zG.o Mn zS);have zET:=aD (l5.o.2.blk zdC.o Q5 zdD);clear oE c0 c1 c2 c3 c4 c5 c6 fz k3 k4 Az;have k4:=aI zoF.o 4;obtain⟨c0,c1,c2,c3,c4,c5,c6⟩:=l5.o.1.recAt Xm.o;have fz:=λj=>l5.o.1.rc.frozenAt j;have S2:=l5.o.1.setR (λd=>{d with e:=e}) Xm.o (j:=6) aH zqk rfl;rw[zgI] at S2;have rC:=aD S2;clear S2
 go_upto_region 3 with fail
 obtain⟨W3,sE⟩:=aT (W2.setCell ⟨v.gR,i*7+6,none⟩ (.string e));rw[<-sE] at rC⊢;have zsA:(r.recs.modify i λd=>{d with t:=r.clk,e:=e})[i]? =some {d with t:=r.clk,e:=e}:=by rw[L3];simp[HD.o]
 have Xx:=aD zsA;have Yh:=aD (E6.o.same (l5.o.2.same rC.o.2));have zbA:=rC.o.2.blk zoF.o Mn zS;have zvK:=aD (rC.o.2.blk zET.o Q5 zdD);have Mi:=aD (show dW W3 lo v {r with recs:=Km r i e} from rC.o.1);have zd0:gb+2<=W3.heap.size:=by have:=Yh.o.size;have:=pT.o;have:=l5.o.2.size;have:=rC.o.2.size;omega
 clear sE c0 c1 c2 c3 c4 c5 c6 fz k4 zsA;have k4:=aI zbA 4;have k5:=aI zbA 5;have fz:=eW zbA;obtain⟨c0,-,-,-,-,-,-⟩:=rC.o.1.recAt Xx.o;have zHZ:=aD zbA;have Mr:=Mi.o.slcW;have Us:=aD Mr;clear zbA Mr
 go_cut [] from 20 to 29 (λwx=>∃g c,wx.heap[gb]? =some (Gi {v with gW:=g,cW:=c} (lN r i e))/\wx.heap[gb+1]? =some kO/\dW wx lo {v with gW:=g,cW:=c} (lN r i e)/\oV v w wx/\w.heap.size<=g/\gb+1<g)
 case first=>
  go_region_with (go_at_call 95;refine(zfj lo W3.heap.size r.wait.length v.cW (some ⟨v.gW,0,none⟩) r.wait d.c W3.drew (Us.o.keep (bL _) (λ_ _ _ _=>rfl)) L2).mono ?_;rintro x w4 ⟨_,rfl,g,cp,rfl,dF,b4⟩;have k0:=(mX b4 (Mo zHZ.o)).1;have k5:=aI k0 5;have fz:=eW k0;have z4:=iR k0;have U6:=aD dF;clear dF)
  all_goals
   go_wp2_with fail
   go_meet
   have rD:=Ur HD.o;have Qq:=Yh.o.size;have hg:W3.heap.size<=g:=(U6.o.lt g rfl).1;have Ar:∀b,b<W3.heap.size->b≠gb->(w4.setCell ⟨gb,5,none⟩ (.slice (some ⟨g,0,none⟩) (dZ r.wait d.c).length cp)).heap[b]? =W3.heap[b]? :=λb hb aV=>(dU w4 _ _ b aV).trans (b4.block b hb);have l3:=Mi.o.lts;have eU:=fY.o;refine⟨g,cp,?_,(Ar _ (iR zvK.o) aC).trans zvK.o,?_,⟨b4.os.trans Yh.o.os,b4.tape.trans Yh.o.tape,b4.output.trans Yh.o.output,?_,λb hb h1 h2=>(Ar b aC aC).trans (Yh.o.block b hb h1 h2)⟩,aC,aC⟩
   .rw[oQ k0,<-rD]
    rw[zHV v r i g cp e]
   .have a:=Mi.o.ap
    have hk:∀b,b<w.heap.size->W3.heap.size<=W3.heap.size:=λ_ _=>bL _;have row:(w4.setCell ⟨gb,5,none⟩ (.slice (some ⟨g,0,none⟩) (dZ r.wait d.c).length cp)).ownsRow W3.heap.size 100 2 (.slice (some ⟨g,0,none⟩) (dZ r.wait d.c).length cp) (dZ r.wait d.c).length (bH (dZ r.wait d.c)):=Cb U6.o (dU w4 _ _ g tL);have zjv:∀{E s n:Nat} {A:Nat} {c:Nat} {xs:List aF},A<gb->W3.ownsRow lo E s (.slice (some ⟨A,0,none⟩) n c) n xs->(w4.setCell ⟨gb,5,none⟩ (.slice (some ⟨g,0,none⟩) (dZ r.wait d.c).length cp)).ownsRow lo E s (.slice (some ⟨A,0,none⟩) n c) n xs:=λ{E s n A c xs} hA h=>Cb h (Ar A (h.lt A rfl).2 aC);have l0:=hl;refine⟨zjv uU Mi.o.rc,?_,zjv uU Mi.o.bk,zjv uU Mi.o.lg,by grind⟩;have:=zhf row (base':=lo) aC;rw[<-rD] at this⊢;exact this
   .grind
 case rest=>
  obtain⟨g,c,kb,kr,hR,hT,hg,zBe⟩:=hcut;have zJX:g<gb\/gb+1<g:=.inr zBe;have k:=aI kb;obtain⟨k0,k1,k2,k3,k4,k5,k6,k7⟩:=eO k;have q:=aI kr;obtain⟨q0,q1,q2,q3,q4,q5,q6,q7⟩:=eO q;have qf:=eW kr;have HR:=aD hR;have HT:=aD hT;have HG:=aD hg;have kC:=aD kr;clear hR hT hg kb kr k q;go_wp2;have er:=aI (zdi (a0:=.int .i64 (lN r i e).o.ln) (a1:=.int .i64 (lN r i e).o.op) (a2:=.int .i64 (lN r i e).o.pt) (a3:=.int .i64 (lN r i e).clk) (a4:=.slice (some ⟨v.gR,0,none⟩) (lN r i e).recs.length v.cR) (a5:=.slice (some ⟨g,0,none⟩) (lN r i e).wait.length c) (a6:=.slice (some ⟨v.gB,0,none⟩) (lN r i e).back.length v.cB) (a7:=.slice (some ⟨v.gL,0,none⟩) (lN r i e).log.length v.cL) kC.o);have l:=HR.o.lts;have eU:=fY.o;have zmv:=HG.o;have zY:=hl;have a:=HR.o.ap;refine bodyPost_ret (v:=.agg (fR {v with gW:=g,cW:=c} (lN r i e))) ?_ rfl ⟨g,c,rfl,HR.o.set8 ?_,HT.o.set8 aC,zmv⟩
  .unfold gQ at er
   simp[results,Tryz.results96,go_sem,er]
  .grind
structure gM (w0 w:aE)(lo gb k:Nat)(v0 v:fT)(r:cC):Prop where
 ok:dW w lo v r
 turn:oV v0 w0 w
 moved:xB gb v0 v
 base:gb=w0.heap.size
 blk:w.heap[gb]? =some (.cells (fR v r) 59)
 size:gb+k<=w.heap.size
 kpos:0<k
 aR:v.gR<gb\/gb+k<=v.gR
 aW:v.gW<gb\/gb+k<=v.gW
 aB:v.gB<gb\/gb+k<=v.gB
 aL:v.gL<gb\/gb+k<=v.gL
 lob:lo<=gb
section
variable {w0 w w':aE}{lo gb k:Nat}{v0 v:fT}{r:cC}
def gM.keep (h:gM w0 w lo gb k v0 v r)(b:bY w.heap.size w w'):gM w0 w' lo gb k v0 v r:=
 ⟨h.ok.below b,h.turn.same (oV.of_below v0 b),h.moved,h.base,(b.block _ (iR h.blk)).trans h.blk,eG h.size b.size,h.kpos,h.aR,h.aW,h.aB,h.aL,h.lob⟩
def gM.alloc (h:gM w0 w lo gb k v0 v r)(o:qQ):gM w0 (w.alloc o) lo gb k v0 v r:=h.keep (eT (fK _ _) o)
def gM.drew (h:gM w0 w lo gb k v0 v r):gM w0 w.drew lo gb k v0 v r:=h.keep ⟨rfl,rfl,rfl,bL _,λ_ _=>rfl⟩
def room_R (v:fT)(r:cC)(g c:Nat)(xs:List bV):(fR v r).setIfInBounds 4 (.slice (some ⟨g,0,none⟩) xs.length c)=fR {v with gR:=g,cR:=c} {r with recs:=xs}:=rfl
def room_W (v:fT)(r:cC)(g c:Nat)(xs:List bN):(fR v r).setIfInBounds 5 (.slice (some ⟨g,0,none⟩) xs.length c)=fR {v with gW:=g,cW:=c} {r with wait:=xs}:=rfl
def room_B (v:fT)(r:cC)(g c:Nat)(xs:List bN):(fR v r).setIfInBounds 6 (.slice (some ⟨g,0,none⟩) xs.length c)=fR {v with gB:=g,cB:=c} {r with back:=xs}:=rfl
def room_L (v:fT)(r:cC)(g c:Nat)(xs:List (List UInt8)):(fR v r).setIfInBounds 7 (.slice (some ⟨g,0,none⟩) xs.length c)=fR {v with gL:=g,cL:=c} {r with log:=xs}:=rfl
def Ao {N g:Nat}{o:qQ}(hb:w.grownBy w' (some g))(hN:w.heap[N]? =some o)(aV:N≠g):w'.heap[N]? =some o/\N<w'.heap.size:=
 ⟨(hb.block N (iR hN) zdY).trans hN,j5 (iR hN) hb.size⟩
variable {u:aF}
theorem zri {row:Nat}{b i:Nat}(hg:w.grownBy w' (some row)){x:Nat}(hx:x<w.heap.size)(h1:x≠row)(h2:x≠b):(w'.setCell ⟨b,i,none⟩ u).heap[x]? =w.heap[x]? :=
 (dU w' _ _ x h2).trans (hg.block x hx (by simp;exact h1))
def dW.setCell {b i:Nat}(h:dW w lo v r)(hb:b≠v.gR/\b≠v.gW/\b≠v.gB/\b≠v.gL):dW (w.setCell ⟨b,i,none⟩ u) lo v r:=
 ⟨Cb h.rc (dU w _ _ _ (Ne.symm hb.1)),Cb h.wt (dU w _ _ _ (Ne.symm hb.2.1)),Cb h.bk (dU w _ _ _ (Ne.symm hb.2.2.1)),Cb h.lg (dU w _ _ _ (Ne.symm hb.2.2.2)),h.ap⟩
theorem gM.appB {m g c:Nat}{x:bN}(h:gM w0 w lo gb k v0 v r)(hg:w.grownBy w' (some v.gB))(ho:w'.ownsRow lo 100 2 (.slice (some ⟨g,0,none⟩) m c) m (bH r.back++x.cells))(hm:m=r.back.length+1)(hw:g=v.gB\/g=w.heap.size):
 gM w0 (w'.setCell ⟨gb,6,none⟩ (.slice (some ⟨g,0,none⟩) m c)) lo gb k v0 {v with gB:=g,cB:=c} {r with back:=r.back++[x]}:=by
 have hk:=h.ok.appB hg ho hm aC;have sz:=h.size;have kp:=h.kpos;have aR:=h.aR;have aW:=h.aW;have aB:=h.aB;have aL:=h.aL;have l:=h.ok.lts;have hs:=hg.size;have Nn:=h.base;have kb:=(Ao hg h.blk aC).1;have zb5:g≠gb:=aC;refine⟨hk.setCell tL,?_,⟨h.moved.r,h.moved.w,?_,h.moved.l⟩,h.base,?_,?_,kp,aR,aW,?_,aL,h.lob⟩
 .have t:=h.turn
  have mb:=h.moved.b;refine⟨hg.os.trans t.os,hg.tape.trans t.tape,hg.output.trans t.output,?_,λb hb h1 h2=>?_⟩
  .rw[wR];have:=t.size;omega
  .exact(zri hg zf8 aC aC).trans (t.block b hb h1 h2)
 .have:=h.moved.b
  simp only;omega
 .rw[oQ kb]
  simp_all
 .rw[wR];omega
 .simp only;omega
theorem gM.appR {m g c:Nat}{x:bV}(h:gM w0 w lo gb k v0 v r)(hg:w.grownBy w' (some v.gR))(ho:w'.ownsRow lo 50 7 (.slice (some ⟨g,0,none⟩) m c) m (recs r.recs++x.cells))(hm:m=r.recs.length+1)(hw:g=v.gR\/g=w.heap.size):
 gM w0 (w'.setCell ⟨gb,4,none⟩ (.slice (some ⟨g,0,none⟩) m c)) lo gb k v0 {v with gR:=g,cR:=c} {r with recs:=r.recs++[x]}:=by
 have hk:=h.ok.appR hg ho hm aC;have sz:=h.size;have kp:=h.kpos;have aR:=h.aR;have aW:=h.aW;have aB:=h.aB;have aL:=h.aL;have l:=h.ok.lts;have hs:=hg.size;have Nn:=h.base;have kb:=(Ao hg h.blk aC).1;have zb5:g≠gb:=aC;refine⟨hk.setCell tL,?_,⟨?_,h.moved.w,h.moved.b,h.moved.l⟩,h.base,?_,?_,kp,?_,aW,aB,aL,h.lob⟩
 .have t:=h.turn
  have mb:=h.moved.r;refine⟨hg.os.trans t.os,hg.tape.trans t.tape,hg.output.trans t.output,?_,λb hb h1 h2=>?_⟩
  .rw[wR];have:=t.size;omega
  .exact(zri hg zf8 aC aC).trans (t.block b hb h1 h2)
 .have:=h.moved.r
  simp only;omega
 .rw[oQ kb]
  simp_all
 .rw[wR];omega
 .simp only;omega
variable {xs:List bN}
theorem gM.setW {g c n:Nat}(h:gM w0 w lo gb k v0 v r)(b:bY n w w')(ho:w'.ownsRow n 100 2 (.slice (some ⟨g,0,none⟩) xs.length c) xs.length (bH xs))(hn:n=w.heap.size):
 gM w0 (w'.setCell ⟨gb,5,none⟩ (.slice (some ⟨g,0,none⟩) xs.length c)) lo gb k v0 {v with gW:=g,cW:=c} {r with wait:=xs}:=by
 subst hn;have hg:w.heap.size<=g:=(ho.lt g rfl).1;have sz:=h.size;have l:=h.ok.lts;have Nn:=h.base;have lob:=h.lob;have hk:=h.ok.newW (w':=w') (λx hx=>b.block x hx) (zhf ho aC) rfl hg;have kp:=h.kpos;have aR:=h.aR;have aW:=h.aW;have aB:=h.aB;have aL:=h.aL;have hs:=b.size;have kb:=(mX b h.blk).1;refine⟨hk.setCell tL,?_,⟨h.moved.r,.inr Mm,h.moved.b,h.moved.l⟩,h.base,?_,?_,kp,aR,.inr Mm,aB,aL,h.lob⟩
 .have t:=h.turn
  refine⟨b.os.trans t.os,b.tape.trans t.tape,b.output.trans t.output,?_,λy hy h1 h2=>?_⟩
  .rw[wR];have:=t.size;omega
  .exact((dU w' _ _ y (by show y≠gb;omega)).trans (b.block y zf8)).trans (t.block y hy h1 h2)
 .rw[oQ kb]
  rw[room_W v r g c xs]
 .rw[wR];omega
theorem gM.setB {g c n:Nat}(h:gM w0 w lo gb k v0 v r)(b:bY n w w')(ho:w'.ownsRow n 100 2 (.slice (some ⟨g,0,none⟩) xs.length c) xs.length (bH xs))(hn:n=w.heap.size):
 gM w0 (w'.setCell ⟨gb,6,none⟩ (.slice (some ⟨g,0,none⟩) xs.length c)) lo gb k v0 {v with gB:=g,cB:=c} {r with back:=xs}:=by
 subst hn;have hg:w.heap.size<=g:=(ho.lt g rfl).1;have sz:=h.size;have l:=h.ok.lts;have Nn:=h.base;have lob:=h.lob;have hk:=h.ok.newB (w':=w') (λx hx=>b.block x hx) (zhf ho aC) rfl hg;have kp:=h.kpos;have aR:=h.aR;have aW:=h.aW;have aB:=h.aB;have aL:=h.aL;have hs:=b.size;have kb:=(mX b h.blk).1;refine⟨hk.setCell tL,?_,⟨h.moved.r,h.moved.w,.inr Mm,h.moved.l⟩,h.base,?_,?_,kp,aR,aW,.inr Mm,aL,h.lob⟩
 .have t:=h.turn
  refine⟨b.os.trans t.os,b.tape.trans t.tape,b.output.trans t.output,?_,λy hy h1 h2=>?_⟩
  .rw[wR];have:=t.size;omega
  .exact((dU w' _ _ y (by show y≠gb;omega)).trans (b.block y zf8)).trans (t.block y hy h1 h2)
 .rw[oQ kb]
  rw[room_B v r g c xs]
 .rw[wR];omega
theorem gM.setR {i j:Nat}{d:bV}(f:bV->bV)(h:gM w0 w lo gb k v0 v r)(hd:r.recs[i]? =some d)(hj:j<7)(hs:∀k,k<7->k≠j->(f d).cells[k]? =d.cells[k]?)(hv:(f d).cells[j]? =some u):
 gM w0 (w.setCell ⟨v.gR,i*7+j,none⟩ u) lo gb k v0 v {r with recs:=r.recs.modify i f}:=by
 obtain⟨h1,h2⟩:=h.ok.setR f hd hj hs hv;have l:=h.ok.lts;have Nn:=h.base;have mr:=h.moved.r;have kp:=h.kpos;have aR:=h.aR;have sz:=h.size;refine⟨h1,?_,h.moved,h.base,?_,by simp_all,h.kpos,h.aR,h.aW,h.aB,h.aL,h.lob⟩
 .have t:=h.turn
  refine⟨t.os,t.tape,t.output,by rw[wR];exact t.size,λy hy e1 e2=>?_⟩;exact(dU w _ _ y (by show y≠v.gR;omega)).trans (t.block y hy e1 e2)
 .have e:(w.setCell ⟨v.gR,i*7+j,none⟩ u).heap[gb]? =w.heap[gb]? :=dU w _ _ gb (by show gb≠v.gR;omega)
  rw[e,h.blk];simp_all
theorem gM.turned {n:Nat}{v':fT}{r':cC}(h:gM w0 w lo gb k v0 v r)(ho:dW w' lo v' r')(t:oV v w w')(m:xB n v v')(hn:n=w.heap.size):
 dW w' lo v' r'/\oV v0 w0 w'/\xB gb v0 v'/\w'.heap[gb]? =some (.cells (fR v r) 59):=by
 have Nn:=h.base;have sz:=h.size;have kp:=h.kpos;have aR:=h.aR;have aB:=h.aB;exact⟨ho,h.turn.trans t h.moved aC,h.moved.trans m aC,t.blk h.blk aC aC⟩
theorem gM.done {b:Nat}{a0 a1 a2 a3 a4 a5 a6 a7:aF}(h:gM w0 w lo gb k v0 v r)(hb:gb<=b/\b<gb+k):dW (gQ w b a0 a1 a2 a3 a4 a5 a6 a7) lo v r/\oV v0 w0 (gQ w b a0 a1 a2 a3 a4 a5 a6 a7)/\xB w0.heap.size v0 v:=by
 have aR:=h.aR;have aW:=h.aW;have aB:=h.aB;have aL:=h.aL;have Nn:=h.base;exact⟨h.ok.set8 aC,h.turn.set8 aC,Nn▸h.moved⟩
theorem B7 {a:bC}{v:aF}(h:w.cell? a=some v)(o:qQ):(w.alloc o).cell? a=some v:=(aE.cell?_alloc_some w a o (by rw[h];rfl)).trans h
end
def tF {z0 z1 z2 z3 z4 z5 z6 z7:aF}(v:fT)(r:cC)(h:w.heap[b]? =some (.cells #[z0,z1,z2,z3,z4,z5,z6,z7] T)):
 (gQ w b (.int .i64 r.o.ln) (.int .i64 r.o.op) (.int .i64 r.o.pt) (.int .i64 r.clk) (v.sR r) (v.sW r) (v.sB r) (v.sL r)).heap[b]? =some (.cells #[.int .i64 r.o.ln,.int .i64 r.o.op,.int .i64 r.o.pt,.int .i64 r.clk,v.sR r,v.sW r,v.sB r,v.sL r] T):=zdi h
theorem zho (h:dW w lo v r)(eF:lo<=w.heap.size):∃(gb:Nat) (O Z:qQ),rA (gb=w.heap.size)/\rA (O=.cells (fR v r) 59)/\rA (Z=.cells #[.int .i64 0,.int .i64 0,.int .i64 0,.int .i64 0,.slice none 0 0,.slice none 0 0,.slice none 0 0,.slice none 0 0] 59)/\
 rA (gM w ((w.alloc O).alloc Z) lo gb 2 v v r)/\rA (((w.alloc O).alloc Z).heap[gb+1]? =some kO)/\rA (((w.alloc O).alloc Z).heap.size=gb+2)/\rA (v.gR<gb/\v.gW<gb/\v.gB<gb/\v.gL<gb):=by
 obtain⟨gb,eU⟩:=aT w.heap.size;have hl:=h.lts;obtain⟨O,hO⟩:=aT (.cells (fR v r) 59:qQ);obtain⟨Z,hZ⟩:=aT (kO:qQ);have l6:((w.alloc O).alloc Z).heap[gb]? =some (Gi v r):=by rw[hO,eU];exact dH (gV _ _) _
 have rJ:((w.alloc O).alloc Z).heap[gb+1]? =some kO:=by rw[<-hZ];exact mH _ _ Ws
 have dS:((w.alloc O).alloc Z).heap.size=gb+2:=by rw[eU];simp
 have fB:=aD (show gM w ((w.alloc O).alloc Z) lo gb 2 v v r from⟨(h.alloc O).alloc Z,oV.of_below v (eT (eT (fK _ _) _) _),xB.refl _ _,eU,l6,aC,aC,.inl aC,.inl aC,.inl aC,.inl aC,aC⟩);have pT:=aD dS
 grind
theorem dec_big {u:Nat}(h:9<u):Zs u=Zs (u/10)++[zcL (48+u%10)]:=by
 rw[Zs,dif_neg aC]
theorem za2 (k:Nat)(hk:k<=100000000)(w:aE):
 fJ aK 94 #[.int .i64 k] w λe w'=>e=.returned (.string ⟨(Kj k).toArray⟩)/\bY w.heap.size w w':=by
 have hI:=aD (Lib.itoa_nonneg k)
 go_enter Tryz.func94,Tryz.ntmps94
 go_wp2
 go_loopw [0,3] (λa s wr=>∃(u:Nat) (l:List UInt8),a=.int .i64 u/\s=.string ⟨l.toArray⟩/\u<=100000000/\Zs u++l=Zs k/\bY w.heap.size w wr) (λa _ _=>(intOf a).toNat)
 case atStart=>exact⟨k,[],rfl,rfl,hk,List.append_nil _,fK _ _⟩
 case round=>
  obtain⟨u,l,rfl,rfl,hu,hl,B⟩:=hrel;have HL:=aD hl;have Jm:l.length<=20:=by have:=congrArg List.length HL.o;rw[jZ] at this;have:=Vh (k:=k) aC;omega
  by_cases aU:9<u
  .have zk7:=cv1 wr (48+u%10) aC
   rw[show((48+u%10:Nat):Int)=48+(u:Int)%10 by omega] at zk7;have HD:=aD (dec_big aU);go_wp2;go_roundw
   case rel=>exact⟨u/10,zcL (48+u%10)::l,by first|rfl|(congr 1;omega),by rw[Oy];simp,aC,by rw[<-HL.o,HD.o];simp,eT B _⟩
   case measure=>simp[intOf];omega
  .have zk7:=cv1 wr (48+u) aC
   rw[show((48+u:Nat):Int)=48+(u:Int) by omega] at zk7;have HT:=aD (show(⟨[zcL (48+u)].toArray⟩:ByteArray)++⟨l.toArray⟩=⟨(Kj k).toArray⟩ by rw[Oy,hI.o,<-HL.o,Lib.decDigits_one aC];simp);go_wp2;go_ret;exact⟨congrArg (λx=>Zw (aF.string x)) (by rw[<-HT.o];simp),eT B _⟩
end Go.Proofs.YtfcjiloojkjaeaaGreatDoor
namespace Go.Tt
abbrev Pr:=Nat->Nat->Prop
def Pr.le (R R':Pr):Prop:=∀a b,R a b->R' a b
def Pr.le.refl (R:Pr):R.le R:=λ_ _ h=>h
variable {R R':Pr}
def Pr.le.trans {Oz:Pr}(h:R.le R')(h':R'.le Oz):R.le Oz:=λa b x=>h' a b (h a b x)
def Pr.add (R:Pr)(n n':Nat):Pr:=λa b=>R a b\/(a=n/\b=n')
def Pr.le_add (R:Pr)(n n':Nat):R.le (R.add n n'):=λ_ _ h=>.inl h
inductive fO (R:Pr):bC->bC->Prop
 |mk {b b' o:Nat} {s:Option Nat}:R b b'->fO R ⟨b,o,s⟩ ⟨b',o,s⟩
inductive xF (R:Pr):Option bC->Option bC->Prop
 |none:xF R none none
 |some {a a':bC}:fO R a a'->xF R (some a) (some a')
inductive Fo (R:Pr):Option Nat->Option Nat->Prop
 |none:Fo R none none
 |some {a a':Nat}:R a a'->Fo R (some a) (some a')
def Pr.or (R K:Pr):Pr:=λa b=>R a b\/K a b
variable {K:Pr}
def Pr.or_mono (h:R.le R'):(R.or K).le (R'.or K):=λa b x=>x.imp (h a b) id
def HidV:aF->Prop
 | .agg _| .tuple _| .bool _| .nilIface=>False
 |_=>True
inductive VR (S:aO->Prop)(K R:Pr):aF->aF->Prop
 |bool (b:Bool):VR S K R (.bool b) (.bool b)
 |int (k:Cn) (n:Int):VR S K R (.int k n) (.int k n)
 |string (s:ByteArray):VR S K R (.string s) (.string s)
 |nilFunc:VR S K R .nilFunc .nilFunc
 |nilIface:VR S K R .nilIface .nilIface
 |pointer {a a':Option bC}:xF R a a'->VR S K R (.pointer a) (.pointer a')
 |slice {a a':Option bC} {n c:Nat}:xF R a a'->VR S K R (.slice a n c) (.slice a' n c)
 |map {a a':Option Nat}:Fo R a a'->VR S K R (.map a) (.map a')
 |chan {a a':Option Nat}:Fo (R.or K) a a'->VR S K R (.chan a) (.chan a')
 |func {f:aO} {xs bZ ys Yl:Array aF}:S f->xs.size=bZ.size->(∀(i:Nat) (v v':aF),xs[i]? =some v->bZ[i]? =some v'->VR S K R v v')->
  ys.size=Yl.size->(∀(i:Nat) (v v':aF),ys[i]? =some v->Yl[i]? =some v'->VR S K R v v')->VR S K R (.func (.func f) xs ys) (.func (.func f) bZ Yl)
 |iface {t:aN} {v v':aF}:VR S K R v v'->VR S K R (.iface t v) (.iface t v')
 |agg {xs bZ:Array aF}:xs.size=bZ.size->(∀(i:Nat) (v v':aF),xs[i]? =some v->bZ[i]? =some v'->VR S K R v v')->VR S K R (.agg xs) (.agg bZ)
 |tuple {xs bZ:Array aF}:xs.size=bZ.size->(∀(i:Nat) (v v':aF),xs[i]? =some v->bZ[i]? =some v'->VR S K R v v')->VR S K R (.tuple xs) (.tuple bZ)
 |junk {v':aF}:HidV v'->VR S K R .nilFunc v'
def bO (S:aO->Prop)(K R:Pr)(xs bZ:Array aF):Prop:=xs.size=bZ.size/\∀(i:Nat) (v v':aF),xs[i]? =some v->bZ[i]? =some v'->VR S K R v v'
section
variable {S:aO->Prop}{K R R':Pr}
theorem fO.mono (h:R.le R'){a a':bC}(x:fO R a a'):fO R' a a':=by cases x with|mk x=>exact .mk (h _ _ x)
theorem xF.mono (h:R.le R'){a a':Option bC}(x:xF R a a'):xF R' a a':=by cases x with|none=>exact .none|some x=>exact .some (x.mono h)
theorem Fo.mono (h:R.le R'){a a':Option Nat}(x:Fo R a a'):Fo R' a a':=by cases x with|none=>exact .none|some x=>exact .some (h _ _ x)
variable {v v':aF}
theorem VR.mono (h:R.le R')(x:VR S K R v v'):VR S K R' v v':=by
 induction x with
 |bool b=>exact .bool b
 |int k n=>exact .int k n
 |string s=>exact .string s
 |nilFunc=>exact .nilFunc
 |nilIface=>exact .nilIface
 |pointer x=>exact .pointer (x.mono h)
 |slice x=>exact .slice (x.mono h)
 |map x=>exact .map (x.mono h)
 |chan x=>exact .chan (x.mono (Pr.or_mono h))
 |func s e1 _ e2 _ i1 i2=>exact .func s e1 i1 e2 i2
 |iface _ ih=>exact .iface ih
 |agg e _ ih=>exact .agg e ih
 |tuple e _ ih=>exact .tuple e ih
 |junk h=>exact .junk h
variable {xs bZ:Array aF}
def bO.mono (h:R.le R')(x:bO S K R xs bZ):bO S K R' xs bZ:=⟨x.1,λi v v' h1 h2=>(x.2 i v v' h1 h2).mono h⟩
variable {i:Nat}
theorem bO.get (x:bO S K R xs bZ)(h:xs[i]? =some v):∃v',bZ[i]? =some v'/\VR S K R v v':=by
 have hi:i<bZ.size:=by rw[<-x.1];exact(dR.1 h).1
 exact⟨bZ[i],pK hi,x.2 i _ _ h (pK hi)⟩
theorem bO.none (x:bO S K R xs bZ)(h:xs[i]? =none):bZ[i]? =none:=by
 rw[ztY] at h⊢;rw[<-x.1];exact h
theorem bO.getD (x:bO S K R xs bZ)(i:Nat){d d':aF}(hd:VR S K R d d'):VR S K R (xs.getD i d) (bZ.getD i d'):=by
 rw[sZ,sZ]
 cases h:xs[i]? with
 |none=>rw[x.none h];exact hd
 |some v=>obtain⟨v',h',hv⟩:=x.get h;rw[h'];exact hv
theorem bO.set (x:bO S K R xs bZ)(i:Nat)(hv:VR S K R v v'):bO S K R (xs.setIfInBounds i v) (bZ.setIfInBounds i v'):=by
 refine⟨by simp[x.1],λj u u' h h'=>?_⟩;by_cases e:i=j
 .grind
 .rw[sO e] at h h'
  exact x.2 j u u' h h'
theorem bO.push (x:bO S K R xs bZ)(hv:VR S K R v v'):bO S K R (xs.push v) (bZ.push v'):=by
 refine⟨by simp[x.1],λj u u' h h'=>?_⟩;rw[zlI] at h h';rw[<-x.1] at h';split at h
 .simp_all
 .rename_i e;rw[if_neg e] at h';exact x.2 j u u' h h'
theorem bO.append {ys Yl:Array aF}(x:bO S K R xs bZ)(y:bO S K R ys Yl):bO S K R (xs++ys) (bZ++Yl):=by
 refine⟨by simp[x.1,y.1],λj u u' h h'=>?_⟩;rw[Array.getElem?_append] at h h';rw[<-x.1] at h';split at h
 .rename_i e;rw[if_pos e] at h';exact x.2 j u u' h h'
 .rename_i e;rw[if_neg e] at h';exact y.2 _ u u' h h'
theorem bO.empty:bO S K R #[] #[]:=⟨rfl,λi v v' h=>by simp at h⟩
def bO.one (h:VR S K R v v'):bO S K R #[v] #[v']:=bO.empty.push h
theorem bO.extract (x:bO S K R xs bZ)(i j:Nat):bO S K R (xs.extract i j) (bZ.extract i j):=by
 refine⟨by simp[x.1],λk u u' h h'=>?_⟩;rw[Array.getElem?_extract] at h h';split at h
 .rename_i e;rw[<-x.1,if_pos e] at h';exact x.2 _ u u' h h'
 .cases h
def VR.agg' (x:bO S K R xs bZ):VR S K R (.agg xs) (.agg bZ):=.agg x.1 x.2
def VR.tuple' (x:bO S K R xs bZ):VR S K R (.tuple xs) (.tuple bZ):=.tuple x.1 x.2
theorem VR.cells (x:VR S K R v v'):bO S K R v.cells v'.cells:=by
 cases x with
 |agg e h=>exact⟨e,h⟩
 |bool b=>exact .one (.bool b)
 |int k n=>exact .one (.int k n)
 |string s=>exact .one (.string s)
 |nilFunc=>exact .one .nilFunc
 |nilIface=>exact .one .nilIface
 |pointer x=>exact .one (.pointer x)
 |slice x=>exact .one (.slice x)
 |map x=>exact .one (.map x)
 |chan x=>exact .one (.chan x)
 |func s e1 h1 e2 h2=>exact .one (.func s e1 h1 e2 h2)
 |iface x=>exact .one (.iface x)
 |tuple e h=>exact .one (.tuple e h)
 |junk h=>
  have e:v'.cells=#[v']:=by cases v'<;>first|rfl|exact h.elim
  rw[e];exact .one (.junk h)
end
structure dM where
 c:bT
 fs:Array Func
 op:aO->Bool
 lw:aO->Bool
 gs:aO->Bool
 dy:Bool
abbrev dM.g (P:dM):Program:={P.c with funcs:=P.fs}
abbrev dM.underlying (P:dM)(t:aN):=P.c.underlying t
abbrev dM.info? (P:dM)(t:aN):=P.c.info? t
abbrev dM.globals (P:dM):=P.c.globals
def Ba (p:bT)(g:Nat):Bool:=match p.globals[g]? with|some x=>(match p.underlying x.type with|some (.array _ _)=>true|_=>false)|none=>false
structure Gp where
 n:Nat
 tab:Nat->Bool
abbrev o9 (p:bT):Gp:=⟨p.globals.size,Ba p⟩
abbrev dM.gp (P:dM):Gp:=o9 P.c
def dM.underlying_g (P:dM)(t:aN):P.g.underlying t=P.c.underlying t:=rfl
def dM.info_g (P:dM)(t:aN):P.g.info? t=P.c.info? t:=rfl
def dM.cells_g (P:dM)(t:aN):P.g.cellsOf t=P.c.cellsOf t:=rfl
def dM.bytes_g (P:dM)(t:aN):P.g.bytesOf t=P.c.bytesOf t:=rfl
def dM.depth_g (P:dM):P.g.depth=P.c.depth:=rfl
theorem dM.byteOfCell_g (P:dM):∀(d:Nat) (t:aN) (o:Nat),byteOfCell P.g d t o=byteOfCell P.c d t o:=by
 intro d
 induction d with
 |zero=>intro t o;rfl
 |succ d ih=>
  intro t o;unfold byteOfCell;rw[P.underlying_g];simp only[ih,P.cells_g,P.bytes_g];rfl
def dM.globals_g (P:dM):P.g.globals=P.c.globals:=rfl
inductive Cq (S:aO->Prop)(K R:Pr):pD->pD->Prop
 |mk {k k' v v':aF} {born:Nat}:VR S K R k k'->VR S K R v v'->Cq S K R ⟨k,v,born⟩ ⟨k',v',born⟩
def rT (S:aO->Prop)(K R:Pr)(es eI:Array pD):Prop:=es.size=eI.size/\∀(i:Nat) (e e':pD),es[i]? =some e->eI[i]? =some e'->Cq S K R e e'
def Lf (fz:Nat×Nat)(o:Nat):Prop:=fz.1<=o/\o<fz.2
inductive o7 (S:aO->Prop)(K R:Pr):qQ->qQ->Prop
 |cells {c c':Array aF} {T:aN} {fz J7:Nat×Nat}:bO S K R c c'->(∀o,Lf J7 o->Lf fz o)->o7 S K R (.cells c T fz) (.cells c' T J7)
 |map {es eI:Array pD} {cl:Nat}:rT S K R es eI->o7 S K R (.map es cl) (.map eI cl)
 |chan {cap s r:Nat} {L5 zuE:Array aF} {closed tm:Bool}:bO S K R L5 zuE->o7 S K R (.chan cap L5 closed s r tm) (.chan cap zuE closed s r tm)
 |stringIter (s:ByteArray) (pos:Nat):o7 S K R (.stringIter s pos) (.stringIter s pos)
 |number {a a':bC} {lost:Bool}:fO R a a'->o7 S K R (.number a lost) (.number a' lost)
 |mapIter {m m':Option Nat} {since stepped:Nat} {seen:Array Nat}:Fo R m m'->o7 S K R (.mapIter m since seen stepped) (.mapIter m' since seen stepped)
section
variable {S:aO->Prop}{K R R':Pr}
theorem Cq.mono (h:R.le R'){e e':pD}(x:Cq S K R e e'):Cq S K R' e e':=by cases x with|mk a b=>exact .mk (a.mono h) (b.mono h)
def rT.mono (h:R.le R'){e e':Array pD}(x:rT S K R e e'):rT S K R' e e':=⟨x.1,λi a b h1 h2=>(x.2 i a b h1 h2).mono h⟩
theorem o7.mono (h:R.le R'){o o':qQ}(x:o7 S K R o o'):o7 S K R' o o':=by
 cases x with
 |cells a b=>exact .cells (a.mono h) b
 |map a=>exact .map (a.mono h)
 |chan a=>exact .chan (a.mono h)
 |stringIter s p=>exact .stringIter s p
 |number a=>exact .number (a.mono h)
 |mapIter a=>exact .mapIter (a.mono h)
end
def pN:Obj:=.cells #[] 0
structure uM (P:dM)(K R:Pr):Prop where
 inj:∀a b c,R.or K a b->R.or K a c->b=c
 inj':∀a b c,R.or K a c->R.or K b c->a=b
 low:∀a b,R a b->(a<P.globals.size↔b<P.globals.size)
 tb:∀g,Ba P.c g=true->R g g
structure Fresh (P:dM)(K R:Pr)(n n':Nat):Prop where
 l:∀b,¬R.or K n b
 r:∀a,¬R.or K a n'
 low:P.globals.size<=n/\P.globals.size<=n'
structure yF (P:dM)(K R R':Pr):Prop where
 le:R.le R'
 ok:uM P K R->uM P K R'
variable {P:dM}
def yF.refl (R:Pr):yF P K R R:=⟨.refl R,id⟩
def yF.trans {Oz:Pr}(h:yF P K R R')(h':yF P K R' Oz):yF P K R Oz:=⟨h.le.trans h'.le,λx=>h'.ok (h.ok x)⟩
theorem yF.add {n n':Nat}(f:Fresh P K R n n'):yF P K R (R.add n n'):=by
 refine⟨Pr.le_add R n n',λh=>⟨?_,?_,?_,λg hg=>.inl (h.tb g hg)⟩⟩
 .rintro a b c ((x|⟨rfl,rfl⟩)|x) ((y|⟨e,rfl⟩)|y)
  .exact h.inj a b c (.inl x) (.inl y)
  .exact absurd (.inl (e▸x)) (f.l _)
  .exact h.inj a b c (.inl x) (.inr y)
  .exact absurd (.inl y) (f.l _)
  .rfl
  .exact absurd (.inr y) (f.l _)
  .exact h.inj a b c (.inr x) (.inl y)
  .exact absurd (.inr (e▸x)) (f.l _)
  .exact h.inj a b c (.inr x) (.inr y)
 .rintro a b c ((x|⟨rfl,rfl⟩)|x) ((y|⟨rfl,e⟩)|y)
  .exact h.inj' a b c (.inl x) (.inl y)
  .exact absurd (.inl (e▸x)) (f.r _)
  .exact h.inj' a b c (.inl x) (.inr y)
  .exact absurd (.inl y) (f.r _)
  .rfl
  .exact absurd (.inr y) (f.r _)
  .exact h.inj' a b c (.inr x) (.inl y)
  .exact absurd (.inr (e▸x)) (f.r _)
  .exact h.inj' a b c (.inr x) (.inr y)
 .rintro a b (x|⟨rfl,rfl⟩)
  .exact h.low a b x
  .have:=f.low;omega
def Z8:Halt->Prop
 | .panic _| .stuck _=>True
 | .unsupported (.initOrder _)=>False
 | .unsupported _=>True
 |_=>False
def C7 (w:aE):Prop:=∀(b:Nat) (c:Array aF) (e:aN),w.heap[b]?≠some (.pending c e)
def eY (P:dM){α:Type}(s:dA α):Prop:=∀w,C7 w->∃h w',s.run P.g w=.halt h w'/\Z8 h
variable {α:Type}{w:aE}
theorem eY.no {s:dA α}(h:eY P s)(hw:C7 w)(x:α)(w':aE):s.run P.g w≠ .ok x w':=by
 obtain⟨_,_,e,_⟩:=h w hw;rw[e];simp
variable {β:Type}
theorem eY.bind {s:dA α}(h:eY P s)(f:α->dA β):eY P (s.bind f):=by
 intro w hw;obtain⟨y,w1,e,ht⟩:=h w hw;exact⟨y,w1,by rw[uG,e];rfl,ht⟩
def Jg (P:dM)(S:aO->Prop)(K:Pr){α β:Type}(A:Pr->α->β->Prop):dA α->Pr->dA β->Prop
 | .pure a,R,s'=>∃b,s'=.pure b/\A R a b
 | .load m a k,R,s'=>m=.plain/\∃a' k',s'=.load .plain a' k'/\fO R a a'/\∀v v',VR S K R v v'->eY P (k v)\/Jg P S K A (k v) R (k' v')
 | .store m a v k,R,s'=>m=.plain/\∃a' v' k',s'=.store .plain a' v' k'/\fO R a a'/\VR S K R v v'/\(eY P k\/Jg P S K A k R k')
 | .new o k,R,s'=>∃o' k',s'=.new o' k'/\o7 S K R o o'/\∀n n',Fresh P K R n n'->eY P (k n)\/Jg P S K A (k n) (R.add n n') (k' n')
 | .shape r k,R,s'=>∃r' k',s'=.shape r' k'/\R r r'/\∀x,eY P (k x)\/Jg P S K A (k x) R (k' x)
 | .freeze _ _ _,_,_=>False
 | .frozen a k,R,s'=>∃a' k',s'=.frozen a' k'/\∀x x',eY P (k x)\/Jg P S K A (k x) R (k' x')
 | .getObj r k,R,s'=>∃r' k',s'=.getObj r' k'/\R.or K r r'/\∀o o',o7 S K R o o'->eY P (k o)\/Jg P S K A (k o) R (k' o')
 | .setObj r o k,R,s'=>∃r' o' k',s'=.setObj r' o' k'/\R.or K r r'/\o7 S K R o o'/\(eY P k\/Jg P S K A k R k')
 | .choose q k,R,s'=>∃k',s'=.choose q k'/\∀n,eY P (k n)\/Jg P S K A (k n) R (k' n)
 | .sys _ _,_,_=>False
 | .program k,R,s'=>∃k',s'=.program k'/\(eY P (k P.g)\/Jg P S K A (k P.g) R (k' P.c))
 | .mark m k,R,s'=>m=.noRoom/\∃k',s'=.mark .noRoom k'/\(eY P k\/Jg P S K A k R k')
 | .halt _,_,_=>False
def aG (P:dM)(S:aO->Prop)(K:Pr){α β:Type}(A:Pr->α->β->Prop)(s:dA α)(R:Pr)(s':dA β):Prop:=eY P s\/Jg P S K A s R s'
section
variable {P:dM}{S:aO->Prop}{K:Pr}{α β γ δ:Type}{A:Pr->α->β->Prop}{B:Pr->γ->δ->Prop}
def aG.pure {R:Pr}{a:α}{b:β}(h:A R a b):aG P S K A (.pure a) R (.pure b):=.inr ⟨b,rfl,h⟩
def eY.halt {h:Halt}(ht:Z8 h):eY P (.halt h:dA α):=λw _=>⟨h,w,rfl,ht⟩
theorem aG.bind {s:dA α}:∀{R:Pr} {s':dA β} {f:α->dA γ} {f':β->dA δ},aG P S K A s R s'->(∀R',yF P K R R'->∀a b,A R' a b->aG P S K B (f a) R' (f' b))->aG P S K B (s.bind f) R (s'.bind f'):=by
 induction s with
 |pure a=>
  rintro R s' f f' (hn|⟨b,rfl,h⟩) hf
  .exact .inl (hn.bind _)
  .exact hf R (.refl R) a b h
 |load m a k ih=>
  rintro R s' f f' (hn|⟨hm,a',k',rfl,ha,hk⟩) hf
  .exact .inl (hn.bind _)
  .exact .inr ⟨hm,a',_,rfl,ha,λv v' hv=>ih v (hk v v' hv) hf⟩
 |store m a v k ih=>
  rintro R s' f f' (hn|⟨hm,a',v',k',rfl,ha,hv,hk⟩) hf
  .exact .inl (hn.bind _)
  .exact .inr ⟨hm,a',v',_,rfl,ha,hv,ih hk hf⟩
 |new o k ih=>
  rintro R s' f f' (hn|⟨o',k',rfl,ho,hk⟩) hf
  .exact .inl (hn.bind _)
  .exact .inr ⟨o',_,rfl,ho,λn n' fL=>ih n (hk n n' fL) λR' hR a b h=>hf R' ((yF.add fL).trans hR) a b h⟩
 |shape r k ih=>
  rintro R s' f f' (hn|⟨r',k',rfl,hr,hk⟩) hf
  .exact .inl (hn.bind _)
  .exact .inr ⟨r',_,rfl,hr,λx=>ih x (hk x) hf⟩
 |freeze a n k ih=>
  rintro R s' f f' (hn|h) hf
  .exact .inl (hn.bind _)
  .exact h.elim
 |frozen a k ih=>
  rintro R s' f f' (hn|⟨r',k',rfl,hk⟩) hf
  .exact .inl (hn.bind _)
  .exact .inr ⟨r',_,rfl,λx x'=>ih x (hk x x') hf⟩
 |getObj r k ih=>
  rintro R s' f f' (hn|⟨r',k',rfl,hr,hk⟩) hf
  .exact .inl (hn.bind _)
  .exact .inr ⟨r',_,rfl,hr,λo o' ho=>ih o (hk o o' ho) hf⟩
 |setObj r o k ih=>
  rintro R s' f f' (hn|⟨r',o',k',rfl,hr,ho,hk⟩) hf
  .exact .inl (hn.bind _)
  .exact .inr ⟨r',o',_,rfl,hr,ho,ih hk hf⟩
 |choose q k ih=>
  rintro R s' f f' (hn|⟨k',rfl,hk⟩) hf
  .exact .inl (hn.bind _)
  .exact .inr ⟨_,rfl,λn=>ih n (hk n) hf⟩
 |sys c k ih=>
  rintro R s' f f' (hn|h) hf
  .exact .inl (hn.bind _)
  .exact h.elim
 |program k ih=>
  rintro R s' f f' (hn|⟨k',rfl,hk⟩) hf
  .exact .inl (hn.bind _)
  .exact .inr ⟨_,rfl,ih P.g hk hf⟩
 |mark m k ih=>
  rintro R s' f f' (hn|⟨rfl,k',rfl,hk⟩) hf
  .exact .inl (hn.bind _)
  .exact .inr ⟨rfl,_,rfl,ih hk hf⟩
 |halt h=>
  rintro R s' f f' (hn|hx) _
  .exact .inl (hn.bind _)
  .exact hx.elim
theorem aG.mono {A':Pr->α->β->Prop}{s:dA α}:∀{R:Pr} {s':dA β},aG P S K A s R s'->(∀R',yF P K R R'->∀a b,A R' a b->A' R' a b)->aG P S K A' s R s':=by
 induction s with
 |pure a=>
  rintro R s' (hn|⟨b,rfl,h⟩) hf
  .exact .inl hn
  .exact .inr ⟨b,rfl,hf R (.refl R) a b h⟩
 |load m a k ih=>
  rintro R s' (hn|⟨hm,a',k',rfl,ha,hk⟩) hf
  .exact .inl hn
  .exact .inr ⟨hm,a',_,rfl,ha,λv v' hv=>ih v (hk v v' hv) hf⟩
 |store m a v k ih=>
  rintro R s' (hn|⟨hm,a',v',k',rfl,ha,hv,hk⟩) hf
  .exact .inl hn
  .exact .inr ⟨hm,a',v',_,rfl,ha,hv,ih hk hf⟩
 |new o k ih=>
  rintro R s' (hn|⟨o',k',rfl,ho,hk⟩) hf
  .exact .inl hn
  .exact .inr ⟨o',_,rfl,ho,λn n' fL=>ih n (hk n n' fL) λR' hR a b h=>hf R' ((yF.add fL).trans hR) a b h⟩
 |shape r k ih=>
  rintro R s' (hn|⟨r',k',rfl,hr,hk⟩) hf
  .exact .inl hn
  .exact .inr ⟨r',_,rfl,hr,λx=>ih x (hk x) hf⟩
 |freeze a n k ih=>
  rintro R s' (hn|h) hf
  .exact .inl hn
  .exact h.elim
 |frozen a k ih=>
  rintro R s' (hn|⟨r',k',rfl,hk⟩) hf
  .exact .inl hn
  .exact .inr ⟨r',_,rfl,λx x'=>ih x (hk x x') hf⟩
 |getObj r k ih=>
  rintro R s' (hn|⟨r',k',rfl,hr,hk⟩) hf
  .exact .inl hn
  .exact .inr ⟨r',_,rfl,hr,λo o' ho=>ih o (hk o o' ho) hf⟩
 |setObj r o k ih=>
  rintro R s' (hn|⟨r',o',k',rfl,hr,ho,hk⟩) hf
  .exact .inl hn
  .exact .inr ⟨r',o',_,rfl,hr,ho,ih hk hf⟩
 |choose q k ih=>
  rintro R s' (hn|⟨k',rfl,hk⟩) hf
  .exact .inl hn
  .exact .inr ⟨_,rfl,λn=>ih n (hk n) hf⟩
 |sys c k ih=>
  rintro R s' (hn|h) hf
  .exact .inl hn
  .exact h.elim
 |program k ih=>
  rintro R s' (hn|⟨k',rfl,hk⟩) hf
  .exact .inl hn
  .exact .inr ⟨_,rfl,ih P.g hk hf⟩
 |mark m k ih=>
  rintro R s' (hn|⟨rfl,k',rfl,hk⟩) hf
  .exact .inl hn
  .exact .inr ⟨rfl,_,rfl,ih hk hf⟩
 |halt h=>
  rintro R s' (hn|hx) _
  .exact .inl hn
  .exact hx.elim
end
structure dB (S:aO->Prop)(K R:Pr)(G:Gp)(St:Nat->Prop)(w W:aE):Prop where
 inj:∀a b c,R.or K a b->R.or K a c->b=c
 inj':∀a b c,R.or K a c->R.or K b c->a=b
 lt:∀a b,R.or K a b->a<w.heap.size/\b<W.heap.size
 low:∀a b,R a b->(a<G.n↔b<G.n)/\(a<G.n->a=b)
 gle:G.n<=w.heap.size/\G.n<=W.heap.size
 cont:∀a b,R a b->∃o o',w.heap[a]? =some o/\W.heap[b]? =some o'/\o7 S K R o o'
 rest:∀a b,K a b->(∀c,¬R a c)->w.heap[a]? =some pN
 st:∀a,St a->(∃b,R a b)/\∃c T hi,w.heap[a]? =some (.cells c T (0,hi))/\c.size<=hi
 np:C7 w
 tb:∀g,G.tab g=true->R g g
def Tp (w W:aE):Prop:=∀n q,w.tape (w.drawn+n) q=W.tape (W.drawn+n) q
def Hg (e:Event):Option Nat:=match e.loc with| .cell a=>some a.block| .obj r=>some r|_=>none
def Ic (R:Pr)(St:Nat->Prop)(e:Event):Prop:=
 e=⟨.mark .noRoom,false,true⟩\/∃b a,Hg e=some b/\R a b/\(e.write=true->¬St a)
variable {St:Nat->Prop}
theorem Ic.mono (h:R.le R'){e:Event}(x:Ic R St e):Ic R' St e:=by
 rcases x with x|⟨b,a,h1,h2,h3⟩
 .exact .inl x
 .exact .inr ⟨b,a,h1,h _ _ h2,h3⟩
structure nQ (S:aO->Prop)(K R:Pr)(G:Gp)(St:Nat->Prop)(w W:aE)(R':Pr)(w' W':aE):Prop where
 le:R.le R'
 old:∀a b,R a b->a<w.heap.size/\b<W.heap.size
 rel:dB S K R' G St w' W'
 tape:w'.tape=w.tape/\W'.tape=W.tape
 drawn:∃d,w'.drawn=w.drawn+d/\W'.drawn=W.drawn+d
 os:w'.os=w.os/\W'.os=W.os
 ou:w'.output=w.output/\W'.output=W.output
 size:w.heap.size<=w'.heap.size/\W.heap.size<=W'.heap.size
 new:∀a b,R' a b->R a b\/(w.heap.size<=a/\W.heap.size<=b)
 full:∀b,W.heap.size<=b->b<W'.heap.size->∃a,R' a b/\w.heap.size<=a
 keep:∀b,b<W.heap.size->(∀a,R a b->St a)->W'.heap[b]? =W.heap[b]?
 still:∀a,St a->w'.heap[a]? =w.heap[a]?
 keepG:∀a,a<w.heap.size->(∀b,¬R a b)->w'.heap[a]? =w.heap[a]?
section
variable {P:dM}{S:aO->Prop}{K R R' Oz:Pr}{G:Gp}{St:Nat->Prop}{w W w' W' Fg zyr:aE}
def dB.ltR (h:dB S K R G St w W):∀a b,R a b->a<w.heap.size/\b<W.heap.size:=λa b x=>h.lt a b (.inl x)
def nQ.refl (h:dB S K R G St w W):nQ S K R G St w W R w W:=
 ⟨.refl R,h.ltR,h,⟨rfl,rfl⟩,⟨0,rfl,rfl⟩,⟨rfl,rfl⟩,⟨rfl,rfl⟩,⟨bL _,bL _⟩,λ_ _ h=>.inl h,λb h1 h2=>absurd h2 aC,λ_ _ _=>rfl,λ_ _=>rfl,λ_ _ _=>rfl⟩
theorem nQ.trans (h:nQ S K R G St w W R' w' W')(h':nQ S K R' G St w' W' Oz Fg zyr):nQ S K R G St w W Oz Fg zyr:=by
 obtain⟨d,d1,d2⟩:=h.drawn;obtain⟨e,e1,e2⟩:=h'.drawn;have s1:=h.size;have s2:=h'.size;refine⟨h.le.trans h'.le,h.old,h'.rel,⟨h'.tape.1.trans h.tape.1,h'.tape.2.trans h.tape.2⟩,⟨d+e,aC,aC⟩,⟨h'.os.1.trans h.os.1,h'.os.2.trans h.os.2⟩,⟨h'.ou.1.trans h.ou.1,h'.ou.2.trans h.ou.2⟩,⟨aC,aC⟩,?_,?_,?_,?_,?_⟩
 .intro a b x
  rcases h'.new a b x with x|⟨x,y⟩
  .exact h.new a b x
  omega
 .intro b x y
  rcases rM b W'.heap.size with z|z
  .obtain⟨a,r,g⟩:=h.full b x z
   exact⟨a,h'.le a b r,g⟩
  .obtain⟨a,r,g⟩:=h'.full b z y
   grind
 .intro b x hk
  refine(h'.keep b aC λa r=>?_).trans (h.keep b x hk);rcases h.new a b r with r'|⟨_,r'⟩
  .exact hk a r'
  .omega
 .intro a x;exact(h'.still a x).trans (h.still a x)
 .intro a x y
  refine(h'.keepG a aC λb r=>?_).trans (h.keepG a x y);rcases h.new a b r with r'|⟨r',_⟩
  .exact y b r'
  .omega
end
section
variable {P:dM}{S:aO->Prop}{K R R':Pr}{G:Gp}{St:Nat->Prop}{w W w' W':aE}
def zwg:(Mode.plain==Mode.atomic)=false:=rfl
variable {o:qQ}
def zvD {w:aE}{a:Nat}(h:w.heap[a]? =some o):a<w.heap.size:=(dR.1 h).1
variable {o':qQ}
theorem o7.live {S:aO->Prop}{K R:Pr}(h:o7 S K R o o'):∀c e,o≠ .pending c e:=by cases h<;>simp
theorem C7.set {w:aE}(h:C7 w){a:Nat}(ho:∀c e,o≠ .pending c e):C7 {w with heap:=w.heap.setIfInBounds a o}:=by
 intro b c e;by_cases hb:a=b
 .grind
 .simp only[sO hb];exact h b c e
theorem C7.push {w:aE}(h:C7 w)(ho:∀c e,o≠ .pending c e):C7 {w with heap:=w.heap.push o}:=by
 intro b c e;simp only[zlI];split
 .simp_all
 .exact h b c e
theorem nQ.upd (h:dB S K R G St w W){a b:Nat}(r:R a b)(ns:¬St a)(ho:o7 S K R o o'):
 nQ S K R G St w W R {w with heap:=w.heap.setIfInBounds a o} {W with heap:=W.heap.setIfInBounds b o'}:=by
 obtain⟨l1,l2⟩:=h.ltR a b r;refine⟨.refl R,h.ltR,⟨h.inj,h.inj',λx y z=>by simpa using h.lt x y z,h.low,by simpa using h.gle,λx y z=>?_,λx y' hx nf=>?_,λx sx=>?_,C7.set h.np ho.live,h.tb⟩,⟨rfl,rfl⟩,⟨0,rfl,rfl⟩,⟨rfl,rfl⟩,⟨rfl,rfl⟩,⟨aQ,aQ⟩,λ_ _ h=>.inl h,λx h1 h2=>absurd h2 pX,λx hx hk=>?_,λx sx=>?_,λx hx nf=>?_⟩
 .by_cases e:x=a
  .subst e
   have:=h.inj x y b (.inl z) (.inl r);simp_all
  .have e':y≠b:=λe'=>e (h.inj' x a b (.inl (e'▸z)) (.inl r))
   obtain⟨p,q,h1,h2,h3⟩:=h.cont x y z
   grind
 .have e:x≠a:=λe=>nf b (e▸r)
  have:=h.rest x _ hx nf
  grind
 .have e:x≠a:=λe=>ns (e▸sx)
  obtain⟨fx,c,T,hi,h1,h2⟩:=h.st x sx
  grind
 .grind
 .grind
 grind
theorem Xp {w:aE}{b o:Nat}{c:Array aF}{T:aN}{fz:Nat×Nat}(h:w.heap[b]? =some (.cells c T fz))(v:aF):
 w.setCell ⟨b,o,none⟩ v={w with heap:=w.heap.setIfInBounds b (.cells (c.setIfInBounds o v) T fz)}:=by
 have hl:=zvD h;have hb:w.heap[b]=.cells c T fz:=by simpa[pK hl] using h
 unfold zbc;congr 1
 grind
theorem nQ.push (h:dB S K R G St w W)(ho:o7 S K R o o'):
 nQ S K R G St w W (R.add w.heap.size W.heap.size) {w with heap:=w.heap.push o} {W with heap:=W.heap.push o'}:=by
 have l1:∀a b,R.or K a b->a≠w.heap.size:=λa b x e=>by have:=(h.lt a b x).1;omega
 have l2:∀a b,R.or K a b->b≠W.heap.size:=λa b x e=>by have:=(h.lt a b x).2;omega
 have g1:=h.gle;refine⟨Pr.le_add _ _ _,h.ltR,⟨?_,?_,?_,?_,pX,?_,?_,?_,C7.push h.np ho.live,λg hg=>.inl (h.tb g hg)⟩,⟨rfl,rfl⟩,⟨0,rfl,rfl⟩,⟨rfl,rfl⟩,⟨rfl,rfl⟩,⟨aQ,aQ⟩,?_,?_,?_,?_,?_⟩
 .rintro a b c ((x|⟨rfl,rfl⟩)|x) ((y|⟨e,rfl⟩)|y)
  .exact h.inj a b c (.inl x) (.inl y)
  .exact absurd e (l1 _ _ (.inl x))
  .exact h.inj a b c (.inl x) (.inr y)
  .exact absurd rfl (l1 _ _ (.inl y))
  .rfl
  .exact absurd rfl (l1 _ _ (.inr y))
  .exact h.inj a b c (.inr x) (.inl y)
  .exact absurd e (l1 _ _ (.inr x))
  .exact h.inj a b c (.inr x) (.inr y)
 .rintro a b c ((x|⟨rfl,rfl⟩)|x) ((y|⟨rfl,e⟩)|y)
  .exact h.inj' a b c (.inl x) (.inl y)
  .exact absurd e (l2 _ _ (.inl x))
  .exact h.inj' a b c (.inl x) (.inr y)
  .exact absurd rfl (l2 _ _ (.inl y))
  .rfl
  .exact absurd rfl (l2 _ _ (.inr y))
  .exact h.inj' a b c (.inr x) (.inl y)
  .exact absurd e (l2 _ _ (.inr x))
  .exact h.inj' a b c (.inr x) (.inr y)
 .rintro a b ((x|⟨rfl,rfl⟩)|x)
  .have:=h.lt a b (.inl x);simp;omega
  .simp
  .have:=h.lt a b (.inr x);simp;omega
 .rintro a b (x|⟨rfl,rfl⟩)
  .exact h.low a b x
  omega
 .rintro a b (x|⟨rfl,rfl⟩)
  .obtain⟨p,q,h1,h2,h3⟩:=h.cont a b x
   exact⟨p,q,by grind,by grind,h3.mono (Pr.le_add _ _ _)⟩
  .exact⟨o,o',aQ,aQ,ho.mono (Pr.le_add _ _ _)⟩
 .intro a b' ha nf
  have e:a≠w.heap.size:=λe=>nf _ (.inr ⟨e,rfl⟩);have hl:a<w.heap.size:=(h.lt a b' (.inr ha)).1;have:=h.rest a b' ha (λb f=>nf b (.inl f));rw[zyG hl,<-this,pK]
 .intro a sa
  obtain⟨⟨b,fa⟩,c,T,hi,h1,h2⟩:=h.st a sa;exact⟨⟨b,.inl fa⟩,c,T,hi,by rw[zyG (zvD h1),<-h1,pK],h2⟩
 .rintro a b (x|⟨rfl,rfl⟩)
  .exact .inl x
  omega
 .intro b x y
  simp only[Array.size_push] at y;obtain rfl:b=W.heap.size:=aC;exact⟨_,.inr ⟨rfl,rfl⟩,bL _⟩
 .grind
 .intro a sa
  obtain⟨fa,c,T,hi,h1,h2⟩:=h.st a sa
  grind
 grind
def nQ.draw (h:dB S K R G St w W):nQ S K R G St w W R {w with drawn:=w.drawn+1} {W with drawn:=W.drawn+1}:=
 ⟨.refl R,h.ltR,⟨h.inj,h.inj',h.lt,h.low,h.gle,h.cont,h.rest,h.st,h.np,h.tb⟩,⟨rfl,rfl⟩,⟨1,rfl,rfl⟩,⟨rfl,rfl⟩,⟨rfl,rfl⟩,⟨bL _,bL _⟩,λ_ _ h=>.inl h,λb h1 h2=>absurd h2 pX,λ_ _ _=>rfl,λ_ _=>rfl,λ_ _ _=>rfl⟩
theorem Tp.step (h:Tp w W)(s:nQ S K R G St w W R' w' W'):Tp w' W':=by
 obtain⟨d,d1,d2⟩:=s.drawn;intro n q;rw[s.tape.1,s.tape.2,d1,d2,zat,zat];exact h (d+n) q
end
def zU (P:dM)(S:aO->Prop)(K:Pr){α β:Type}(A:Pr->α->β->Prop)(R:Pr)(G:Gp)(St:Nat->Prop)(w W:aE)(s':dA β)(x:α)(w':aE):Prop:=
 ∃R' x' W' ev,s'.run P.c W=.ok x' W'/\A R' x x'/\nQ S K R G St w W R' w' W'/\(∀es,s'.events P.c W es=es++ev)/\∀e∈ev,Ic R' St e
variable {S:aO->Prop}{W w':aE}{e₁:Array Event}
theorem zU.after {A:Pr->α->β->Prop}{zii:Pr}{G:Gp}{aJ aZ:aE}{s' s₁':dA β}{x:α}
 (wX:nQ S K R G St w W zii aJ aZ) (hr:s'.run P.c W=s₁'.run P.c aZ) (he:∀es,s'.events P.c W es=s₁'.events P.c aZ (es++e₁)) (bM:∀e∈e₁,Ic zii St e) (h:zU P S K A zii G St aJ aZ s₁' x w'):zU P S K A R G St w W s' x w':=by
 obtain⟨R',x',W',ev,a,b,c,d,e⟩:=h;refine⟨R',x',W',e₁++ev,hr.trans a,b,wX.trans c,λes=>by simp_all,λy hy=>?_⟩;rcases Array.mem_append.1 hy with hy|hy
 .exact(bM y hy).mono c.le
 .exact e y hy
theorem o7.shape {G:Gp}(h:dB S K R G St w W){r r':Nat}(x:R r r'):W.shape? r'=w.shape? r:=by
 obtain⟨o,o',h1,h2,h3⟩:=h.cont r r' x;unfold zdJ;rw[h1,h2]
 cases h3 with
 |cells hc _=>simp[hc.1]
 |_=>rfl
theorem dB.orR {G:Gp}(h:dB S K R G St w W){a b:Nat}(x:R.or K a b):R a b\/w.heap[a]? =some pN:=by
 by_cases e:∃c,R a c
 .obtain⟨c,e⟩:=e
  exact .inl (h.inj a b c x (.inl e)▸e)
 .exact .inr (h.rest a b (x.resolve_left λy=>e ⟨b,y⟩) (λc y=>e ⟨c,y⟩))
theorem aG.run {A:Pr->α->β->Prop}{G:Gp}(hG:G=P.gp){x:α}(s:dA α):
 ∀{R:Pr} {w W:aE} {s':dA β},aG P S K A s R s'->dB S K R G St w W->Tp w W->s.run P.g w=.ok x w'->zU P S K A R G St w W s' x w':=by
 induction s with
 |pure a=>
  rintro R w W s' (hn|⟨b,rfl,h⟩) hw ht hr
  .exact absurd hr (hn.no hw.np _ _)
  simp only[bK,Result.ok.injEq] at hr;obtain⟨rfl,rfl⟩:=hr;exact⟨R,b,W,#[],rfl,h,.refl hw,λes=>by unfold yZ;rw[Ak];simp,λe he=>by simp at he⟩
 |load m a k ih=>
  rintro R w W s' (hn|⟨rfl,a',k',rfl,ha,hk⟩) hw ht hr
  .exact absurd hr (hn.no hw.np _ _)
  obtain⟨qV⟩:=ha;rename_i b b' o sp
  .obtain⟨ob,Dm,h1,h2,h3⟩:=hw.cont b b' qV
   cases h3 with
   |cells hc hz=>
    rename_i c c' T fz J7
    cases sp with
    |some sp=>simp[bK,lU,h1,zM,rK] at hr
    |none=>
     cases hv:c[o]? with
     |none=>simp[bK,lU,h1,zM,rK,hv] at hr
     |some v=>
      obtain⟨v',Me,wI⟩:=hc.get hv;have e1:w.cell? ⟨b,o,none⟩=some v:=by simp[lU,h1,hv]
      have e2:W.cell? ⟨b',o,none⟩=some v':=by simp[lU,h2,Me]
      rw[bK,e1] at hr;refine zU.after (e₁:=#[⟨.cell ⟨b',o,none⟩,false,false⟩]) (.refl hw) (by rw[bK,e2]) (λes=>by unfold yZ;rw[Ak,e2];simp[zwg]) ?_ (ih v (hk v v' wI) hw ht hr);intro e he;simp at he;subst he;exact .inr ⟨b',b,rfl,qV,aQ⟩
   |map x=>simp[bK,lU,h1,zM,rK] at hr
   |chan x=>simp[bK,lU,h1,zM,rK] at hr
   |stringIter x y=>simp[bK,lU,h1,zM,rK] at hr
   |mapIter x=>simp[bK,lU,h1,zM,rK] at hr
   |number x=>simp[bK,lU,h1,zM,rK] at hr
 |store m a v k ih=>
  rintro R w W s' (hn|⟨rfl,a',v',k',rfl,ha,hv,hk⟩) hw ht hr
  .exact absurd hr (hn.no hw.np _ _)
  obtain⟨qV⟩:=ha;rename_i b b' o sp;have Rj:∀cs,v≠ .agg cs:=by rintro cs rfl;simp[bK] at hr
  have Fw:∀cs,v≠ .tuple cs:=by rintro cs rfl;simp[bK] at hr
  have zyA:∀cs,v'≠ .agg cs:=by rintro cs rfl;cases hv<;>first|exact Rj _ rfl|exact Fw _ rfl|(rename_i hh;exact hh.elim)
  have zxJ:∀cs,v'≠ .tuple cs:=by rintro cs rfl;cases hv<;>first|exact Fw _ rfl|(rename_i hh;exact hh.elim)
  rw[bK] at hr
  rotate_left
  .exact λcs=>Rj cs
  .exact λcs=>Fw cs
  .obtain⟨ob,Dm,h1,h2,h3⟩:=hw.cont b b' qV
   cases h3 with
   |cells hc hz=>
    rename_i c c' T fz J7
    cases sp with
    |some sp=>simp[lU,h1,Du,rK] at hr
    |none=>
     cases gU:c[o]? with
     |none=>simp[lU,h1,Du,rK,gU] at hr
     |some v0=>
      obtain⟨zAi,zHv,_⟩:=hc.get gU;have e1:w.cell? ⟨b,o,none⟩=some v0:=by simp[lU,h1,gU]
      have e2:W.cell? ⟨b',o,none⟩=some zAi:=by simp[lU,h2,zHv]
      rw[e1] at hr;simp only at hr
      cases oH:w.frozen? ⟨b,o,none⟩ with
      |true=>simp_all
      |false=>
       rw[oH] at hr;simp only[jG,if_false] at hr;have Vo:¬Lf fz o:=by
        intro⟨z1,z2⟩;simp[Jt,h1,z1,z2] at oH
       have Ap:¬St b:=by
        intro hs;obtain⟨_,c2,T2,hi,g1,g2⟩:=hw.st b hs;rw[h1] at g1;injection g1 with g1;injection g1 with g1 _ g3;subst g1 g3;exact Vo ⟨mK _,j5 (dR.1 gU).1 g2⟩
       have zys:W.frozen? ⟨b',o,none⟩=false:=by
        simp only[Jt,h2]
        cases hq:(decide (J7.1<=o)&&decide (o<J7.2)) with
        |false=>rfl
        |true=>simp at hq;exact absurd (hz o hq) Vo
       rw[Xp h1] at hr;refine zU.after (e₁:=#[⟨.cell ⟨b',o,none⟩,true,false⟩]) (nQ.upd hw qV Ap (.cells (hc.set o hv) hz)) (s₁':=k') ?_ ?_ ?_ (ih hk (nQ.upd hw qV Ap (.cells (hc.set o hv) hz)).rel (ht.step (nQ.upd hw qV Ap (.cells (hc.set o hv) hz))) hr)
       .rw[bK]
        rotate_left
        .exact λcs=>zyA cs
        .exact λcs=>zxJ cs
        rw[e2];simp only[zys,jG,if_false];rw[Xp h2]
       .intro es
        unfold yZ;rw[Ak]
        rotate_left
        .exact λcs=>zyA cs
        .exact λcs=>zxJ cs
        rw[e2];simp only[zys,jG,if_false];rw[Xp h2];simp[zwg]
       .intro e he
        simp at he;subst he;exact .inr ⟨b',b,rfl,qV,λ_=>Ap⟩
   |map x=>simp[lU,h1,Du,rK] at hr
   |chan x=>simp[lU,h1,Du,rK] at hr
   |stringIter x y=>simp[lU,h1,Du,rK] at hr
   |mapIter x=>simp[lU,h1,Du,rK] at hr
   |number x=>simp[lU,h1,Du,rK] at hr
 |new o k ih=>
  rintro R w W s' (hn|⟨o',k',rfl,ho,hk⟩) hw ht hr
  .exact absurd hr (hn.no hw.np _ _)
  rw[bK] at hr;exact zU.after (e₁:=#[]) (nQ.push hw ho) My (λes=>by unfold yZ;rw[Ak];simp) (λe he=>by simp at he) (ih _ (hk _ _ ⟨λb hb=>absurd (hw.lt _ _ hb).1 (Jk _),λa ha=>absurd (hw.lt _ _ ha).2 (Jk _),by subst hG;exact hw.gle⟩) (nQ.push hw ho).rel (ht.step (nQ.push hw ho)) hr)
 |shape r k ih=>
  rintro R w W s' (hn|⟨r',k',rfl,tV,hk⟩) hw ht hr
  .exact absurd hr (hn.no hw.np _ _)
  rw[bK] at hr;exact zU.after (e₁:=#[]) (.refl hw) (by rw[bK,o7.shape hw tV]) (λes=>by unfold yZ;rw[Ak,o7.shape hw tV];simp) (λe he=>by simp at he) (ih _ (hk _) hw ht hr)
 |freeze a n k ih=>
  rintro R w W s' (hn|h) hw ht hr
  .exact absurd hr (hn.no hw.np _ _)
  .exact h.elim
 |frozen a k ih=>
  rintro R w W s' (hn|⟨r',k',rfl,hk⟩) hw ht hr
  .exact absurd hr (hn.no hw.np _ _)
  rw[bK] at hr;exact zU.after (e₁:=#[]) (.refl hw) My (λes=>by unfold yZ;rw[Ak];simp) (λe he=>by simp at he) (ih _ (hk _ _) hw ht hr)
 |getObj r k ih=>
  rintro R w W s' (hn|⟨r',k',rfl,tV,hk⟩) hw ht hr
  .exact absurd hr (hn.no hw.np _ _)
  rw[bK] at hr
  .replace tV:R r r':=by
    rcases hw.orR tV with x|x
    .exact x
    .rw[x] at hr;simp[pN] at hr
   obtain⟨ob,Dm,h1,h2,h3⟩:=hw.cont r r' tV;rw[h1] at hr;have go:(∀c T fz,ob≠ .cells c T fz)->(∀c T fz,Dm≠ .cells c T fz)->zU P S K A R G St w W (.getObj r' k') x w':=by
    intro n1 n2;refine zU.after (e₁:=#[⟨.obj r',false,Dm.isChan⟩]) (.refl hw) (s₁':=k' Dm) ?_ ?_ ?_ (ih ob (hk _ _ h3) hw ht ?_)
    .rw[bK,h2];simp_all
    .intro es;unfold yZ;rw[Ak,h2];simp_all
    .intro e he
     simp at he;subst he;exact .inr ⟨r',r,rfl,tV,aQ⟩
    .simp_all
   cases h3 with
   |cells hc hz=>simp at hr
   |map x=>simp_all
   |chan x=>simp_all
   |stringIter x y=>simp_all
   |mapIter x=>simp_all
   |number x=>simp_all
 |setObj r o k ih=>
  rintro R w W s' (hn|⟨r',o',k',rfl,tV,ho,hk⟩) hw ht hr
  .exact absurd hr (hn.no hw.np _ _)
  rw[bK] at hr
  .replace tV:R r r':=by
    rcases hw.orR tV with x|x
    .exact x
    .rw[x] at hr;simp[pN] at hr
   obtain⟨ob,Dm,h1,h2,h3⟩:=hw.cont r r' tV;rw[h1] at hr;have go:(∀c T fz,ob≠ .cells c T fz)->(∀c T fz,Dm≠ .cells c T fz)->zU P S K A R G St w W (.setObj r' o' k') x w':=by
    intro n1 n2;have Ap:¬St r:=by
     intro hs;obtain⟨_,c2,T2,hi,g1,g2⟩:=hw.st r hs;rw[h1] at g1;injection g1 with g1;exact n1 _ _ _ g1
    refine zU.after (e₁:=#[⟨.obj r',true,o'.isChan⟩]) (nQ.upd hw tV Ap ho) (s₁':=k') ?_ ?_ ?_ (ih hk (nQ.upd hw tV Ap ho).rel (ht.step (nQ.upd hw tV Ap ho)) ?_)
    .rw[bK,h2];simp_all
    .intro es;unfold yZ;rw[Ak,h2];simp_all
    .intro e he
     simp at he;subst he;exact .inr ⟨r',r,rfl,tV,λ_=>Ap⟩
    .simp_all
   cases h3 with
   |cells hc hz=>simp at hr
   |map x=>simp_all
   |chan x=>simp_all
   |stringIter x y=>simp_all
   |mapIter x=>simp_all
   |number x=>simp_all
 |choose q k ih=>
  rintro R w W s' (hn|⟨k',rfl,hk⟩) hw ht hr
  .exact absurd hr (hn.no hw.np _ _)
  rw[bK] at hr
  cases hq:q.forced with
  |true=>
   rw[hq] at hr;simp only[if_true] at hr;exact zU.after (e₁:=#[]) (.refl hw) (by rw[bK,hq];simp) (λes=>by unfold yZ;rw[Ak,hq];simp) (λe he=>by simp at he) (ih 0 (hk 0) hw ht hr)
  |false=>
   rw[hq] at hr;simp only[jG,if_false] at hr;have ea:w.tape w.drawn q=W.tape W.drawn q:=ht 0 q;rw[ea] at hr;exact zU.after (e₁:=#[]) (nQ.draw hw) (by rw[bK,hq];simp) (λes=>by unfold yZ;rw[Ak,hq];simp) (λe he=>by simp at he) (ih _ (hk _) (nQ.draw hw).rel (ht.step (nQ.draw hw)) hr)
 |sys c k ih=>
  rintro R w W s' (hn|h) hw ht hr
  .exact absurd hr (hn.no hw.np _ _)
  .exact h.elim
 |program k ih=>
  rintro R w W s' (hn|⟨k',rfl,hk⟩) hw ht hr
  .exact absurd hr (hn.no hw.np _ _)
  rw[bK] at hr;exact zU.after (e₁:=#[]) (.refl hw) My (λes=>by unfold yZ;rw[Ak];simp) (λe he=>by simp at he) (ih _ hk hw ht hr)
 |mark m k ih=>
  rintro R w W s' (hn|⟨rfl,k',rfl,hk⟩) hw ht hr
  .exact absurd hr (hn.no hw.np _ _)
  .rw[bK] at hr
   exact zU.after (e₁:=#[⟨.mark .noRoom,false,true⟩]) (.refl hw) My (λes=>by unfold yZ;rw[Ak];simp) (λe he=>by simp at he;exact .inl he) (ih hk hw ht hr)
 |halt h=>simp_all
section
variable {P:dM}{S:aO->Prop}{K:Pr}{α β γ δ:Type}{R:Pr}
abbrev mE {α:Type}:Pr->α->α->Prop:=λ_ a b=>a=b
abbrev VA (S:aO->Prop)(K:Pr):Pr->aF->aF->Prop:=λR v v'=>VR S K R v v'
def aG.bnd {A:Pr->α->β->Prop}{B:Pr->γ->δ->Prop}{s:dA α}{s':dA β}{f:α->dA γ}{f':β->dA δ}(h:aG P S K A s R s')(hf:∀R',yF P K R R'->∀a b,A R' a b->aG P S K B (f a) R' (f' b)):
 aG P S K B (s>>=f) R (s'>>=f'):=aG.bind h hf
def aG.ret {A:Pr->α->β->Prop}{a:α}{b:β}(h:A R a b):aG P S K A (lR a:dA α) R (lR b:dA β):=aG.pure h
def bQ {Ry:String}:eY P (stuck Ry:dA α):=eY.halt trivial
variable {u:Unsupported}
theorem lS (hu:Z8 (.unsupported u):=by trivial):eY P (unsupported u:dA α):=eY.halt hu
variable {v:aF}
def ze1 :eY P (goPanic v:dA α):=eY.halt trivial
def eY.bnd {s:dA α}(h:eY P s)(f:α->dA β):eY P (s>>=f):=h.bind f
def n8 (P:dM)(s:dA α):Prop:=∀w,C7 w->(∃a w',s.run P.g w=.ok a w'/\C7 w')\/∃h w',s.run P.g w=.halt h w'/\Z8 h
def n8.never {s:dA α}(h:eY P s):n8 P s:=λw hw=>.inr (h w hw)
def n8.ret (a:α):n8 P (lR a:dA α):=λw hw=>.inl ⟨a,w,rfl,hw⟩
theorem n8.bnd {s:dA α}{f:α->dA β}(h:n8 P s)(hf:∀a,n8 P (f a)):n8 P (s>>=f):=by
 intro w hw;have e:(s>>=f).run P.g w=_:=uG P.g s f w;rcases h w hw with⟨a,w',h1,h2⟩|⟨y,w',h1,h2⟩
 .rcases hf a w' h2 with⟨b,w2,h3,h4⟩|⟨y,w2,h3,h4⟩
  .exact .inl ⟨b,w2,by rw[e,h1];exact h3,h4⟩
  simp_all
 simp_all
def zmB:n8 P program:=λw hw=>.inl ⟨P.g,w,rfl,hw⟩
theorem zod (q:Question):n8 P (choose q):=λw hw=>by
 unfold choose bK;split
 .exact .inl ⟨0,w,rfl,hw⟩
 .exact .inl ⟨_,_,rfl,hw⟩
def zzz (r:Nat):n8 P (shape r):=λw hw=>.inl ⟨_,w,rfl,hw⟩
variable {o:qQ}
def zGX (ho:∀c e,o≠ .pending c e):n8 P (newObj o):=λw hw=>.inl ⟨_,_,rfl,C7.push hw ho⟩
theorem zES (t:aN):n8 P (underlying t):=by
 unfold underlying;refine zmB.bnd λp=>?_;split
 .exact n8.ret _
 .exact .never bQ
theorem zEN (t:aN)(v:aF):n8 P (newVar t v):=by
 unfold newVar newRow;exact(zGX aQ).bnd λ_=>n8.ret _
theorem zBR (t:aN):n8 P (elemOf t):=by
 unfold elemOf;refine(zES t).bnd λd=>?_;split
 .exact n8.ret _
 .exact .never bQ
def zE8 (a:bC):n8 P (frozen a):=λw hw=>.inl ⟨_,w,rfl,hw⟩
def zEe (m:Mark):n8 P (mark m):=λw hw=>.inl ⟨_,w,rfl,hw⟩
theorem zsC (a:bC)(n:Nat):n8 P (ziT a n):=by
 unfold ziT;refine(zzz _).bnd λx=>?_;split<;>exact n8.ret _
theorem zHt (size zdk n:Nat)(base:Option bC)(x:aF):n8 P (ztC size zdk n base x):=by
 unfold ztC;have tail:∀b:Bool,n8 P (match x with
  | .slice (some b) _ _=>do pure (!(<-ziT b (n*size))||base.any (·.block==b.block))
  |_=>pure false:dA Bool):=λ_=>by
  split
  .exact(zsC _ _).bnd λ_=>n8.ret _
  .exact n8.ret _
 cases base with
 |none=>
  refine(n8.ret true).bnd λthere=>?_;cases there
  .exact n8.ret _
  .exact tail true
 |some a=>
  refine(zsC _ _).bnd λh1=>(zE8 _).bnd λh2=>?_;refine(n8.ret _).bnd λthere=>?_;cases there
  .exact n8.ret _
  .exact tail true
theorem eY.then {s:dA α}{f:α->dA β}(hs:n8 P s)(h:∀a,eY P (f a)):eY P (s>>=f):=by
 intro w hw;have e:(s>>=f).run P.g w=_:=uG P.g s f w;rcases hs w hw with⟨a,w',h1,h2⟩|⟨y,w',h1,h2⟩
 .obtain⟨y,w2,h3,h4⟩:=h a w' h2
  simp_all
 simp_all
variable {e:RuntimeError}
theorem vW :eY P (runtimePanic e:dA α):=by
 unfold runtimePanic;refine eY.then zmB λp=>?_;cases e<;>first|exact ze1|(refine eY.then (zBR _) λ_=>?_;refine eY.then (zEN _ _) λ_=>?_;exact ze1)
theorem Vm {k:Cn}{x y:Int}{c:zks}:eY P (boundsPanic k x y c:dA α):=by
 unfold boundsPanic;simp only;split
 .refine eY.then ?_ λ_=>vW
  exact(zod _).bnd λ_=>n8.ret _
 .exact eY.then (n8.ret _) λ_=>vW
def Vg:aG P S K (λ_ a b=>a=P.g/\b=P.c) program R program:=.inr ⟨_,rfl,.inr ⟨P.c,rfl,rfl,rfl⟩⟩
def ze6 (q:Question):aG P S K mE (choose q) R (choose q):=.inr ⟨_,rfl,λn=>.inr ⟨n,rfl,rfl⟩⟩
theorem nC (t:aN):aG P S K (λ_ a b=>a=b/\P.underlying t=some a) (underlying t) R (underlying t):=by
 unfold underlying;refine aG.bnd Vg ?_;rintro R' _ a b ⟨ha,hb⟩;rw[ha,hb,P.underlying_g]
 cases h:P.c.underlying t with
 |some d=>exact aG.ret ⟨rfl,h⟩
 |none=>exact .inl bQ
theorem Fu (t:aN):aG P S K (λ_ a b=>a=b/\P.info? t=some a) (typeInfo t) R (typeInfo t):=by
 unfold typeInfo;refine aG.bnd Vg ?_;rintro R' _ a b ⟨ha,hb⟩;rw[ha,hb,P.info_g]
 cases h:P.c.info? t with
 |some d=>exact aG.ret ⟨rfl,h⟩
 |none=>exact .inl bQ
def Kf (P:dM)(S:aO->Prop):Prop:=∀(K R:Pr) t i z,P.info? t=some i->i.zero=some z->VR S K R z z
theorem Qk (hz:Kf P S)(t:aN):aG P S K (VA S K) (zeroValue t) R (zeroValue t):=by
 unfold zeroValue;refine aG.bnd (Fu t) ?_;rintro R' _ a b ⟨rfl,h⟩
 cases h2:a.zero with
 |some z=>exact aG.ret (hz K R' t a z h h2)
 |none=>exact .inl lS
theorem Br (t:aN):aG P S K mE (sizeOf t) R (sizeOf t):=by
 unfold sizeOf;refine aG.bnd (Fu t) ?_;rintro R' _ a b ⟨rfl,h⟩;exact aG.ret rfl
theorem zwz (t:aN):aG P S K mE (isAgg t) R (isAgg t):=by
 unfold isAgg;refine aG.bnd (nC t) ?_;rintro R' _ a b ⟨rfl,h⟩;cases a<;>exact aG.ret rfl
variable {v':aF}
theorem zeu (h:VR S K R v v'):aG P S K mE (asIntOf v) R (asIntOf v'):=by
 cases h with
 |int k n=>exact aG.ret rfl
 |pointer x=>cases x<;>first|exact .inl lS|exact .inl bQ
 |_=>exact .inl bQ
theorem Wx (h:VR S K R v v'):aG P S K mE (asInt v) R (asInt v'):=by
 unfold asInt;refine aG.bnd (zeu h) ?_;rintro R' _ a b rfl;exact aG.ret rfl
theorem zDy (h:VR S K R v v'):aG P S K mE (asBool v) R (asBool v'):=by
 cases h with
 |bool b=>exact aG.ret rfl
 |_=>exact .inl bQ
theorem zqH (h:VR S K R v v'):aG P S K (λR a b=>fO R a b) (asAddr v) R (asAddr v'):=by
 cases h with
 |pointer x=>
  cases x with
  |none=>exact .inl (by unfold asAddr;exact vW)
  |some x=>exact aG.ret x
 |_=>exact .inl bQ
theorem zcb (h:VR S K R v v'):aG P S K (λR a b=>fO R a b) (zxW v) R (zxW v'):=by
 cases h with
 |pointer x=>
  cases x with
  |none=>exact .inl bQ
  |some x=>exact aG.ret x
 |_=>exact .inl bQ
variable {a a':bC}
def zo1 (h:fO R a a'):aG P S K (VA S K) (load a) R (load a'):=.inr ⟨rfl,a',_,rfl,h,λv v' hv=>.inr ⟨v',rfl,hv⟩⟩
def zGt (h:fO R a a')(hv:VR S K R v v'):aG P S K mE (store a v) R (store a' v'):=.inr ⟨rfl,a',v',_,rfl,h,hv,.inr ⟨(),rfl,rfl⟩⟩
variable {o':qQ}
def zgp (h:o7 S K R o o'):aG P S K (λR a b=>R a b) (newObj o) R (newObj o'):=.inr ⟨o',_,rfl,h,λn n' _=>.inr ⟨n',rfl,.inr ⟨rfl,rfl⟩⟩⟩
variable {r r':Nat}
def zaR (h:R r r'):aG P S K mE (shape r) R (shape r'):=.inr ⟨r',_,rfl,h,λx=>.inr ⟨x,rfl,rfl⟩⟩
def Si (h:R r r'):aG P S K (λR o o'=>o7 S K R o o') (getObj r) R (getObj r'):=.inr ⟨r',_,rfl,.inl h,λo o' ho=>.inr ⟨o',rfl,ho⟩⟩
def zcN (h:R r r')(ho:o7 S K R o o'):aG P S K mE (setObj r o) R (setObj r' o'):=.inr ⟨r',o',_,rfl,.inl h,ho,.inr ⟨(),rfl,rfl⟩⟩
def zuq (h:R.or K r r'):aG P S K (λR o o'=>o7 S K R o o') (getObj r) R (getObj r'):=.inr ⟨r',_,rfl,h,λo o' ho=>.inr ⟨o',rfl,ho⟩⟩
theorem znc (n:Nat):aG P S K mE (askRoom n) R (askRoom n):=by
 unfold askRoom;split
 .exact .inr ⟨rfl,_,rfl,.inr ⟨(),rfl,rfl⟩⟩
 .exact aG.ret rfl
theorem fO.add (h:fO R a a')(n:Nat):fO R (a.add n) (a'.add n):=by
 cases h with
 |mk h=>unfold zhH;split<;>exact .mk h
theorem xF.map {a a':Option bC}(h:xF R a a')(n:Nat):xF R (a.map (·.add n)) (a'.map (·.add n)):=by
 cases h with
 |none=>exact .none
 |some h=>exact .some (h.add n)
theorem zpx :∀(n i:Nat) {R:Pr} {acc zet:Array aF},fO R a a'->bO S K R acc zet->aG P S K (λR x y=>bO S K R x y) (loadCellsFrom a i n acc) R (loadCellsFrom a' i n zet)
 |0,i,R,acc,zet,h,hc=>aG.ret hc
 |n+1,i,R,acc,zet,h,hc=>by
  unfold loadCellsFrom;refine aG.bnd (zo1 (h.add i)) ?_;intro R' hR v v' hv;exact zpx n (i+1) (h.mono hR.le) ((hc.mono hR.le).push hv)
def znv (h:fO R a a')(n:Nat):aG P S K (λR x y=>bO S K R x y) (loadCells a n) R (loadCells a' n):=zpx n 0 h bO.empty
def yU (S:aO->Prop)(K R:Pr)(xs bZ:List aF):Prop:=xs.length=bZ.length/\∀(i:Nat) (v v':aF),xs[i]? =some v->bZ[i]? =some v'->VR S K R v v'
theorem bO.toList {xs bZ:Array aF}(h:bO S K R xs bZ):yU S K R xs.toList bZ.toList:=⟨by simpa using h.1,λi v v' h1 h2=>h.2 i v v' Yo Xb⟩
variable {xs bZ:List aF}
def yU.mono {R':Pr}(hR:R.le R')(h:yU S K R xs bZ):yU S K R' xs bZ:=⟨h.1,λi v v' h1 h2=>(h.2 i v v' h1 h2).mono hR⟩
theorem yU.cons {x x':aF}(h:yU S K R (x::xs) (x'::bZ)):VR S K R x x'/\yU S K R xs bZ:=
 ⟨h.2 0 x x' rfl rfl,by simpa using h.1,λi v v' h1 h2=>h.2 (i+1) v v' Yo Xb⟩
theorem Zq :∀(vs zge:List aF) (i:Nat) {R:Pr},fO R a a'->yU S K R vs zge->aG P S K mE (storeCells a vs i) R (storeCells a' zge i)
 |[],[],i,R,h,hv=>aG.ret rfl
 |[],_::_,i,R,h,hv=>by have:=hv.1;simp at this
 |_::_,[],i,R,h,hv=>by have:=hv.1;simp at this
 |v::vs,v'::zge,i,R,h,hv=>by
  unfold storeCells;obtain⟨h1,h2⟩:=hv.cons;refine aG.bnd (zGt (h.add i) h1) ?_;intro R' hR _ _ _;exact Zq vs zge (i+1) (h.mono hR.le) (h2.mono hR.le)
theorem zp5 (t:aN)(h:fO R a a'):aG P S K (VA S K) (loadVar t a) R (loadVar t a'):=by
 unfold loadVar;refine aG.bnd (zwz t) ?_;rintro R1 h1 b _ rfl
 cases b with
 |true=>
  simp only[if_true];refine aG.bnd (Br t) ?_;rintro R2 h2 n _ rfl;refine aG.bnd (znv ((h.mono h1.le).mono h2.le) n) ?_;intro R3 h3 x y zzI;exact aG.ret (VR.agg' zzI)
 |false=>simpa using zo1 (h.mono h1.le)
theorem zDu (t:aN)(h:fO R a a')(hv:VR S K R v v'):aG P S K mE (storeVar t a v) R (storeVar t a' v'):=by
 unfold storeVar;refine aG.bnd (Br t) ?_;rintro R1 h1 n _ rfl;have hc:=hv.cells;rw[<-hc.1];split
 .exact .inl (bQ.bnd _)
 .exact Zq _ _ 0 (h.mono h1.le) ((hc.mono h1.le).toList)
variable {c c':Array aF}
theorem zbE (e:aN)(h:bO S K R c c'):aG P S K (λR a b=>fO R a b) (newRow e c) R (newRow e c'):=by
 unfold newRow;refine aG.bnd (zgp (.cells h λo ho=>ho)) ?_;intro R1 h1 n n' hn;exact aG.ret (.mk hn)
def zwq (t:aN)(h:VR S K R v v'):aG P S K (λR a b=>fO R a b) (newVar t v) R (newVar t v'):=zbE t h.cells
theorem zEG (t:aN)(h:bO S K R c c')(off:Nat):aG P S K (VA S K) (part t c off) R (part t c' off):=by
 unfold part;refine aG.bnd (zwz t) ?_;rintro R1 h1 b _ rfl
 cases b with
 |true=>
  simp only[if_true];refine aG.bnd (Br t) ?_;rintro R2 h2 n _ rfl;exact aG.ret (VR.agg' (((h.mono h1.le).mono h2.le).extract _ _))
 |false=>
  simp only[jG,if_false]
  cases hc:c[off]? with
  |none=>exact .inl bQ
  |some v=>obtain⟨v',Me,wI⟩:=(h.mono h1.le).get hc;rw[Me];exact aG.ret wI
end
section
variable {P:dM}{S:aO->Prop}{K:Pr}{α β γ δ:Type}{R:Pr}
theorem zB7 (hz:Kf P S)(e:aN):aG P S K (VA S K) (zm1 e true (.tuple #[])) R (zm1 e true (.tuple #[])):=by
 unfold zm1;refine aG.bnd (Qk hz e) ?_;intro R1 h1 z z' qI;refine aG.bnd (zwq e qI) ?_;intro R2 h2 a a' ha;exact aG.ret (.pointer (.some ha))
variable {v v':aF}
theorem sim_box (e:aN)(h:VR S K R v v'):aG P S K (VA S K) (znb e v) R (znb e v'):=by
 unfold znb;refine aG.bnd (zwq e h) ?_;intro R2 h2 a a' ha;exact aG.ret (.pointer (.some ha))
theorem zy3 (t:aN)(h:VR S K R v v'):aG P S K (VA S K) (znM t v) R (znM t v'):=by
 unfold znM;refine aG.bnd (zcb h) ?_;intro R1 h1 a a' ha;exact zp5 t ha
theorem zDs (t:aN){a a':aF}(h:VR S K R a a')(hv:VR S K R v v'):aG P S K mE (zlM t a v) R (zlM t a' v'):=by
 unfold zlM;refine aG.bnd (zcb h) ?_;intro R1 h1 a a' ha;exact zDu t ha (hv.mono h1.le)
theorem zwR {r r':Nat}(h:R r r'):aG P S K (λ_ a b=>a=none/\b=none) (viewAt r) R (viewAt r'):=by
 unfold viewAt;refine aG.bnd (zaR h) ?_;rintro R1 h1 x _ rfl
 cases x with
 |some x=>exact aG.ret ⟨rfl,rfl⟩
 |none=>
  refine aG.bnd (Si (h1.le _ _ h)) ?_;intro R2 h2 o o' ho;cases ho<;>exact aG.ret ⟨rfl,rfl⟩
variable {a a':bC}
theorem zHh (h:fO R a a'):aG P S K mE (noView a) R (noView a'):=by
 cases h with
 |mk h=>
  unfold noView;refine aG.bnd (zwR h) ?_;rintro R1 h1 _ _ ⟨rfl,rfl⟩;exact aG.ret rfl
theorem Ud (h:fO R a a'):aG P S K mE (byteOf a) R (byteOf a'):=by
 have h0:=h
 cases h with
 |mk h=>
  rename_i b b' o sp;unfold byteOf
  cases sp with
  |some s=>exact aG.ret rfl
  |none=>
   refine aG.bnd Vg ?_;rintro R1 h1 p q ⟨rfl,rfl⟩;refine aG.bnd (zHh (h0.mono h1.le)) ?_;rintro R2 h2 _ _ _;refine aG.bnd (zaR (h2.le _ _ (h1.le _ _ h))) ?_;rintro R3 h3 x _ rfl
   cases x with
   |none=>exact .inl bQ
   |some x=>
    obtain⟨e,n⟩:=x;simp only[P.cells_g,P.bytes_g,P.depth_g,P.byteOfCell_g];split
    .exact aG.ret rfl
    .split
     .exact aG.ret rfl
     .exact .inl bQ
theorem zCB (h:fO R a a')(c b:Nat):aG P S K (λR a b=>fO R a b) (partAt a c b) R (partAt a' c b):=by
 unfold partAt;refine aG.bnd (Ud h) ?_;rintro R1 h1 n _ rfl;have h':=h.mono h1.le
 cases h' with
 |mk h'=>
  refine aG.bnd (Ud (.mk h')) ?_;rintro R2 h2 m _ rfl;split<;>exact aG.ret (.mk (h2.le _ _ h'))
theorem zAz (h:fO R a a')(f:Field):aG P S K (λR a b=>fO R a b) (fieldPlace a f) R (fieldPlace a' f):=by
 unfold fieldPlace;refine aG.bnd (Br f.type) ?_;rintro R1 h1 n _ rfl;split
 .exact zCB (h.mono h1.le) _ _
 .exact aG.ret ((h.mono h1.le).add _)
theorem zJa (s:aN)(h:VR S K R v v')(f:Nat):aG P S K (VA S K) (zmx s v f) R (zmx s v' f):=by
 unfold zmx;refine aG.bnd (nC s) ?_;rintro R1 h1 d _ ⟨rfl,hd⟩
 cases d with
 |struct fields=>
  simp only
  cases hf:fields[f]? with
  |none=>exact .inl bQ
  |some fl=>
   refine aG.bnd (zcb (h.mono h1.le)) ?_;intro R2 h2 a a' ha;refine aG.bnd (zAz ha fl) ?_;intro R3 h3 b b' hb;exact aG.ret (.pointer (.some hb))
 |_=>exact .inl bQ
def znQ (t:aN)(k:Cn)(i:Int)(b:Option bC)(len:Nat)(elem:aN):dA Value:=do
 let tiny:=len<=1&&(match<-underlying t with| .array .. =>true|_=>false)
 match b with
 |some a=>
  if 0<=i/\i<len then pure (.pointer (some (a.add (i.toNat*(<-sizeOf elem)))))
  else if tiny then unsupported (.noEntry "op/indexAddr.an index out of range at an array of length 0 or 1 (ledger 616)")
  else boundsPanic k i len .index
 |none=>boundsPanic k i 0 .index
theorem zxU (t:aN)(k:Cn)(i:Int){b b':Option bC}(h:xF R b b')(len:Nat)(elem:aN):aG P S K (VA S K) (znQ t k i b len elem) R (znQ t k i b' len elem):=by
 unfold znQ;refine aG.bnd (nC t) ?_;rintro R3 h3 d _ ⟨rfl,hd⟩;have b9:=h.mono h3.le
 cases b9 with
 |none=>exact .inl Vm
 |some ha=>
  simp only;split
  .refine aG.bnd (Br elem) ?_
   rintro R4 h4 sz _ rfl;exact aG.ret (.pointer (.some ((ha.mono h4.le).add _)))
  .refine .inl ?_
   split<;>first|exact lS|exact Vm|(split<;>first|exact lS|exact Vm)
theorem zI8 (t:aN){i i':aF}(h:VR S K R v v')(hi:VR S K R i i'):aG P S K (VA S K) (zko t v i) R (zko t v' i'):=by
 unfold zko;refine aG.bnd (zeu hi) ?_;rintro R1 h1 ⟨k,n⟩ _ rfl;refine aG.bnd (nC t) ?_;rintro R2 h2 d _ ⟨rfl,hd⟩;have hv:=(h.mono h1.le).mono h2.le
 cases d with
 |array len elem=>
  refine aG.bnd (zcb hv) ?_;intro R3 h3 a a' ha;exact zxU t k n (.some ha) len elem
 |slice elem=>
  cases hv with
  |slice ho=>exact zxU t k n ho _ elem
  |_=>exact .inl (bQ.bnd _)
 |_=>exact .inl (bQ.bnd _)
theorem zBy (t:aN){i i':aF}(h:VR S K R v v')(hi:VR S K R i i'):aG P S K (VA S K) (zkE t v i) R (zkE t v' i'):=by
 unfold zkE;refine aG.bnd (zeu hi) ?_;rintro R1 h1 ⟨k,n⟩ _ rfl;refine aG.bnd (nC t) ?_;rintro R2 h2 d _ ⟨rfl,hd⟩;have hv:=(h.mono h1.le).mono h2.le
 cases d with
 |array len elem=>
  cases hv with
  |agg e hc=>
   simp only;split
   .refine aG.bnd (Br elem) ?_
    rintro R3 h3 sz _ rfl;exact zEG elem (bO.mono h3.le ⟨e,hc⟩) _
   .exact .inl Vm
  |_=>exact .inl bQ
 |string=>
  cases hv with
  |string s=>
   simp only;split
   .exact aG.ret (.int _ _)
   .exact .inl Vm
  |_=>exact .inl bQ
 |_=>exact .inl bQ
theorem zdp (h:VR S K R v v')(y:Nat)(c:zks):aG P S K mE (La v y c) R (La v' y c):=by
 unfold La;refine aG.bnd (zeu h) ?_;rintro R1 h1 ⟨k,n⟩ _ rfl;simp only;split
 .exact aG.ret rfl
 .exact .inl Vm
inductive Ag (S:aO->Prop)(K R:Pr):Option aF->Option aF->Prop
 |none:Ag S K R none none
 |some {v v':aF}:VR S K R v v'->Ag S K R (some v) (some v')
theorem Ag.mono {R':Pr}(h:R.le R'){v v':Option aF}(x:Ag S K R v v'):Ag S K R' v v':=by cases x with|none=>exact .none|some x=>exact .some (x.mono h)
variable {xK kN Vq:Option aF}
theorem zfo (b:Bool)(len cap:Nat){lo hi mx:Option aF}(hl:Ag S K R lo xK)(hh:Ag S K R hi kN)(hm:Ag S K R mx Vq):
 aG P S K mE (Zc b len cap lo hi mx) R (Zc b len cap xK kN Vq):=by
 have nd:∀{R1:Pr},yF P K R R1->∀(m h:Nat) (c:zks),aG P S K (mE (α:=Nat×Nat×Nat)) (match lo with|some v=>(do let l<-La v h c;pure (l,h,m))|none=>pure (0,h,m)) R1 (match xK with|some v=>(do let l<-La v h c;pure (l,h,m))|none=>pure (0,h,m)):=by
  intro R1 h1 m h c
  cases hl with
  |none=>exact aG.ret rfl
  |some z=>
   refine aG.bnd (zdp (z.mono h1.le) h c) ?_;rintro R2 h2 l _ rfl;exact aG.ret rfl
 unfold Zc
 cases hm with
 |none=>
  cases hh with
  |none=>cases hl with
   |none=>exact aG.ret rfl
   |some z=>exact nd (yF.refl R) cap len (if(none:Option aF).isSome then .slice3C else .sliceB)
  |some x=>
   refine aG.bind (α:=Nat) (A:=mE) (s:=La _ cap (if b then .sliceAcap else .sliceAlen)) (s':=La _ cap (if b then .sliceAcap else .sliceAlen)) (zdp x _ _) ?_;rintro R2 h2 h _ rfl
   cases hl with
   |none=>exact aG.ret rfl
   |some z=>simp_all
 |some y=>
  refine aG.bnd (zdp y _ _) ?_;rintro R1 h1 m _ rfl
  cases hh with
  |none=>exact .inl (bQ.bnd _)
  |some x=>
   refine aG.bnd (zdp (x.mono h1.le) _ _) ?_;rintro R2 h2 h _ rfl
   cases hl with
   |none=>exact aG.ret rfl
   |some z=>
    refine aG.bnd (zdp ((z.mono h1.le).mono h2.le) _ _) ?_;rintro R3 h3 l _ rfl;exact aG.ret rfl
theorem zEc (t:aN){lo hi mx:Option aF}(h:VR S K R v v')(hl:Ag S K R lo xK)(hh:Ag S K R hi kN)(hm:Ag S K R mx Vq):
 aG P S K (VA S K) (Wz t v lo hi mx) R (Wz t v' xK kN Vq):=by
 unfold Wz;refine aG.bnd (nC t) ?_;rintro R1 h1 d _ ⟨rfl,hd⟩;have hv:=h.mono h1.le
 cases d with
 |string=>
  cases hv with
  |string s=>
   simp only
   cases hm with
   |some y=>exact .inl (bQ.bnd _)
   |none=>
    refine aG.bnd (zfo _ _ _ (hl.mono h1.le) (hh.mono h1.le) .none) ?_;rintro R2 h2 ⟨l,h,m⟩ _ rfl;exact aG.ret (.string _)
  |_=>exact .inl bQ
 |slice elem=>
  cases hv with
  |slice ho=>
   refine aG.bnd (zfo _ _ _ (hl.mono h1.le) (hh.mono h1.le) (hm.mono h1.le)) ?_;rintro R2 h2 ⟨l,h,m⟩ _ rfl;refine aG.bnd (Br elem) ?_;rintro R3 h3 sz _ rfl;refine aG.ret (.slice ?_);split
   .exact(ho.mono h2.le).mono h3.le
   .exact((ho.mono h2.le).mono h3.le).map _
  |_=>exact .inl bQ
 |pointer arr=>
  refine aG.bnd (zqH hv) ?_;intro R2 h2 a a' ha;refine aG.bnd (nC arr) ?_;rintro R3 h3 d _ ⟨rfl,hd⟩
  cases d with
  |array n elem=>
   refine aG.bnd (zfo _ _ _ (((hl.mono h1.le).mono h2.le).mono h3.le) (((hh.mono h1.le).mono h2.le).mono h3.le) (((hm.mono h1.le).mono h2.le).mono h3.le)) ?_;rintro R4 h4 ⟨l,h,m⟩ _ rfl;refine aG.bnd (Br elem) ?_;rintro R5 h5 sz _ rfl;refine aG.ret (.slice (.some ?_));have fX:=((ha.mono h3.le).mono h4.le).mono h5.le;split
   .exact fX
   .exact fX.add _
  |_=>exact .inl bQ
 |_=>exact .inl bQ
theorem zFJ (t:aN){lo hi mx:Option aF}(h:VR S K R v v')(hl:Ag S K R lo xK)(hh:Ag S K R hi kN)(hm:Ag S K R mx Vq):
 aG P S K (VA S K) (Wh t v lo hi mx) R (Wh t v' xK kN Vq):=by
 unfold Wh;refine aG.bnd (nC t) ?_;rintro R1 h1 d _ ⟨rfl,hd⟩
 cases d with
 |array n elem=>
  refine aG.bnd (zcb (h.mono h1.le)) ?_;intro R2 h2 a a' ha;refine aG.bnd (zfo _ _ _ ((hl.mono h1.le).mono h2.le) ((hh.mono h1.le).mono h2.le) ((hm.mono h1.le).mono h2.le)) ?_;rintro R4 h4 ⟨l,h,m⟩ _ rfl;refine aG.bnd (Br elem) ?_;rintro R5 h5 sz _ rfl;refine aG.ret (.slice (.some ?_));have fX:=(ha.mono h4.le).mono h5.le;split
  .exact fX
  .exact fX.add _
 |_=>exact zEc t (h.mono h1.le) (hl.mono h1.le) (hh.mono h1.le) (hm.mono h1.le)
theorem zF1 (h:VR S K R v v')(i:Nat):aG P S K (VA S K) (zkN v i) R (zkN v' i):=by
 unfold zkN
 cases h with
 |tuple e hc=>
  rename_i xs bZ;simp only
  cases hq:xs[i]? with
  |none=>exact .inl bQ
  |some u=>
   obtain⟨u',Nt,zcJ⟩:=bO.get ⟨e,hc⟩ hq;rw[Nt];exact aG.ret zcJ
 |_=>exact .inl bQ
theorem zC7 (t:aN){r r':Option aF}(h:Ag S K R r r'):aG P S K (VA S K) (zjU t r) R (zjU t r'):=by
 have fin:∀{R1:Pr},aG P S K (VA S K) (do pure (.map (some (<-newObj (.map #[] 0))))) R1 (do pure (.map (some (<-newObj (.map #[] 0))))):=by
  intro R1;refine aG.bnd (zgp (.map ⟨rfl,λi e e' h=>by simp at h⟩)) ?_;intro R2 h2 n n' hn;exact aG.ret (.map (.some hn))
 unfold zjU
 cases h with
 |none=>exact fin
 |some x=>
  refine aG.bnd (nC t) ?_;rintro R1 h1 d _ ⟨rfl,hd⟩
  cases d with
  |map k e=>
   refine aG.bnd (Wx (x.mono h1.le)) ?_;simp_all
  |_=>exact .inl (bQ.bnd _)
theorem zCq (t:aN)(h:VR S K R v v'):aG P S K (VA S K) (zn6 t v) R (zn6 t v'):=by
 unfold zn6;refine aG.bnd (Wx h) ?_;rintro R1 h1 n _ rfl;refine aG.bnd (nC t) ?_;rintro R2 h2 d _ ⟨rfl,hd⟩
 cases d with
 |chan dir elem=>
  refine aG.bnd (Fu elem) ?_;rintro R3 h3 inf _ ⟨rfl,hi⟩;simp only;split
  .exact .inl (vW.bnd _)
  .refine aG.bnd (zgp (.chan bO.empty)) ?_
   intro R4 h4 n n' hn;exact aG.ret (.chan (.some (.inl hn)))
 |_=>exact .inl bQ
end
section
variable {P:dM}{S:aO->Prop}{K:Pr}{α β γ δ:Type}{R:Pr}
theorem Fo.eq_iff {R:Pr}(inj:∀a b c,R a b->R a c->b=c)(inj':∀a b c,R a c->R b c->a=b){a a' b b':Option Nat}(h:Fo R a a')(h':Fo R b b'):(a==b)=(a'==b'):=by
 cases h with
 |none=>cases h' with
  |none=>rfl
  |some y=>rfl
 |some x=>cases h' with
  |none=>rfl
  |some y=>grind
variable {r r':Nat}
theorem ziE (h:R r r'):aG P S K (λR a b=>(a=none/\b=none)\/∃x x' l,a=some (x,l)/\b=some (x',l)/\fO R x x') (numberAt r) R (numberAt r'):=by
 unfold numberAt;refine aG.bnd (zaR h) ?_;rintro R1 h1 x _ rfl
 cases x with
 |some x=>exact aG.ret (.inl ⟨rfl,rfl⟩)
 |none=>
  refine aG.bnd (Si (h1.le _ _ h)) ?_;intro R2 h2 o o' ho
  cases ho with
  |number ha=>exact aG.ret (.inr ⟨_,_,_,rfl,rfl,ha⟩)
  |_=>exact aG.ret (.inl ⟨rfl,rfl⟩)
variable {a a':bC}
theorem zsU (h:fO R a a'):aG P S K (λR x y=>fO R x.1 y.1) (behindNumber a) R (behindNumber a'):=by
 have h0:=h
 cases h with
 |mk h=>
  unfold behindNumber;refine aG.bnd (ziE h) ?_;rintro R1 h1 x y (⟨rfl,rfl⟩|⟨p,p',l,rfl,rfl,hp⟩)
  .exact aG.ret (h0.mono h1.le)
  .exact aG.ret hp
def zao:zbD->Bool
 | .bool| .int _| .string| .chan .. =>true
 |_=>false
theorem fO.block_eq (hR:uM P K R){b b':bC}(h:fO R a a')(h':fO R b b'):(a.block==b.block)=(a'.block==b'.block):=by
 cases h with
 |mk x=>
  cases h' with
  |mk y=>
   rw[Ng];simp only[beq_iff_eq];exact⟨λe=>hR.inj _ _ _ (.inl (e▸x)) (.inl y),λe=>hR.inj' _ _ _ (.inl (e▸x)) (.inl y)⟩
def zFP (h:R r r'):aG P S K (λR' a b=>R'=R/\a=b) (shape r) R (shape r'):=.inr ⟨r',_,rfl,h,λx=>.inr ⟨x,rfl,rfl,rfl⟩⟩
def zAR (h:R r r'):aG P S K (λR' o o'=>R'=R/\o7 S K R o o') (getObj r) R (getObj r'):=.inr ⟨r',_,rfl,.inl h,λo o' ho=>.inr ⟨o',rfl,rfl,ho⟩⟩
def zkx:aG P S K (λR' a b=>R'=R/\a=P.g/\b=P.c) program R program:=.inr ⟨_,rfl,.inr ⟨P.c,rfl,rfl,rfl,rfl⟩⟩
theorem zCd (h:R r r'):aG P S K (λR' a b=>R'=R/\((a=none/\b=none)\/∃x x' l,a=some (x,l)/\b=some (x',l)/\fO R x x')) (numberAt r) R (numberAt r'):=by
 unfold numberAt;refine aG.bnd (zFP h) ?_;rintro R1 _ x _ ⟨rfl,rfl⟩
 cases x with
 |some x=>exact aG.ret ⟨rfl,.inl ⟨rfl,rfl⟩⟩
 |none=>
  refine aG.bnd (zAR h) ?_;rintro R2 _ o o' ⟨rfl,ho⟩
  cases ho with
  |number ha=>exact aG.ret ⟨rfl,.inr ⟨_,_,_,rfl,rfl,ha⟩⟩
  |_=>exact aG.ret ⟨rfl,.inl ⟨rfl,rfl⟩⟩
theorem zha (h:fO R a a'):aG P S K (λR' x y=>R'=R/\fO R x.1 y.1) (behindNumber a) R (behindNumber a'):=by
 have h0:=h
 cases h with
 |mk h=>
  unfold behindNumber;refine aG.bnd (zCd h) ?_;rintro R1 _ x y ⟨rfl,⟨rfl,rfl⟩|⟨p,p',l,rfl,rfl,hp⟩⟩
  .exact aG.ret ⟨rfl,h0⟩
  .exact aG.ret ⟨rfl,hp⟩
theorem fO.low (hR:uM P K R)(h:fO R a a'):decide (a.block<P.globals.size)=decide (a'.block<P.globals.size):=by
 cases h with
 |mk x=>exact decide_eq_decide.2 (hR.low _ _ x)
def zmb (P:dM)(t:aN):Prop:=∀i x,P.info? t=some i->i.desc≠ .named "sync.copyChecker" x
theorem zz5 {t:aN}(hc:zmb P t)(hR:uM P K R){b b':bC}(ha:fO R a a')(hb:fO R b b'):
 aG P S K mE (do
  let(a,b):=((<-behindNumber a).1,(<-behindNumber b).1)
  if a.block==b.block&&a.block<(<-program).globals.size then return (<-byteOf a)==(<-byteOf b)
  let .named "sync.copyChecker" _:=(<-typeInfo t).desc|unsupported .addressObserved
  if a==b then pure true else unsupported .addressObserved) R (do
  let(a,b):=((<-behindNumber a').1,(<-behindNumber b').1)
  if a.block==b.block&&a.block<(<-program).globals.size then return (<-byteOf a)==(<-byteOf b)
  let .named "sync.copyChecker" _:=(<-typeInfo t).desc|unsupported .addressObserved
  if a==b then pure true else unsupported .addressObserved):=by
 refine aG.bnd (zha ha) ?_;rintro R1 _ x y ⟨rfl,hx⟩;refine aG.bnd (zha hb) ?_;rintro R2 _ u v ⟨rfl,hu⟩;refine aG.bnd zkx ?_;rintro R3 _ p q ⟨rfl,rfl,rfl⟩;rw[<-fO.block_eq hR hx hu,P.globals_g,<-fO.low hR hx];split
 .refine aG.bnd (Ud hx) ?_
  rintro R4 h4 m _ rfl;refine aG.bnd (Ud (hu.mono h4.le)) ?_;rintro R5 h5 m' _ rfl;exact aG.ret rfl
 .refine aG.bnd (Fu t) ?_
  rintro R4 h4 i _ ⟨rfl,hi⟩;refine .inl ?_;split
  .next e=>exact absurd e (hc i _ hi)
  .exact lS
theorem zG7 (n:Nat)(t:aN)(d:zbD)(hd:P.underlying t=some d)(ok:zao d=true)(hc:∀k,d=.int k->zmb P t)(hR:uM P K R){x x' y y':aF}(hx:VR S K R x x')(hy:VR S K R y y'):
 aG P S K mE (D3 (n+1) t x y) R (D3 (n+1) t x' y'):=by
 unfold D3;refine aG.bnd (A:=λR' a b=>R'=R/\a=b/\P.underlying t=some a) (by
  unfold underlying;refine aG.bnd zkx ?_;rintro R' _ a b ⟨rfl,ha,hb⟩;rw[ha,hb,P.underlying_g]
  cases h:P.c.underlying t with
  |some d=>exact aG.ret ⟨rfl,rfl,h⟩
  |none=>exact .inl bQ) ?_
 rintro R1 _ d' _ ⟨rfl,rfl,Kx⟩;obtain rfl:d'=d:=by simp_all
 cases d' with
 |bool=>
  cases hx with
  |bool a=>cases hy with
   |bool b=>exact aG.ret rfl
   |_=>exact .inl bQ
  |_=>first|exact .inl bQ|(cases hy<;>exact .inl bQ)
 |string=>
  cases hx with
  |string a=>cases hy with
   |string b=>exact aG.ret rfl
   |_=>exact .inl bQ
  |_=>first|exact .inl bQ|(cases hy<;>exact .inl bQ)
 |chan dir el=>
  cases hx with
  |chan a=>cases hy with
   |chan b=>exact aG.ret (Fo.eq_iff hR.inj hR.inj' a b)
   |_=>exact .inl bQ
  |_=>first|exact .inl bQ|(cases hy<;>exact .inl bQ)
 |int ik=>
  cases hx with
  |int k a=>cases hy with
   |int k' b=>
    simp only;split
    .exact aG.ret rfl
    .exact .inl bQ
   |pointer q=>
    cases q with
    |none=>exact .inl zlu
    |some q=>
     by_cases h0:a=0
     .subst h0;exact aG.ret rfl
     .refine .inl ?_
      split<;>first|exact lS|exact bQ|(exfalso;simp_all;done)
   |_=>exact .inl zh6
  |pointer p=>cases p with
   |none=>cases hy<;>first|exact .inl lS|exact .inl bQ
   |some p=>
    cases hy with
    |int k' b=>
     by_cases h0:b=0
     .subst h0;exact aG.ret rfl
     .refine .inl ?_
      split<;>first|exact lS|exact bQ|(exfalso;simp_all;done)
    |pointer q=>
     cases q with
     |none=>exact .inl zlu
     |some q=>exact zz5 (hc ik rfl) hR p q
    |_=>exact .inl zlu
  |_=>cases hy<;>first|exact .inl bQ|exact .inl lS
 |_=>cases ok
end
section
variable {P:dM}{S:aO->Prop}{K:Pr}{α β γ δ:Type}{R:Pr}
def L4 (S:aO->Prop)(K R:Pr)(es eI:List pD):Prop:=es.length=eI.length/\∀(i:Nat) (e e':pD),es[i]? =some e->eI[i]? =some e'->Cq S K R e e'
variable {es eI:Array pD}
theorem rT.toList (h:rT S K R es eI):L4 S K R es.toList eI.toList:=⟨by simpa using h.1,λi e e' h1 h2=>h.2 i e e' Yo Xb⟩
variable {e e':pD}
theorem L4.cons {es eI:List pD}(h:L4 S K R (e::es) (e'::eI)):Cq S K R e e'/\L4 S K R es eI:=
 ⟨h.2 0 e e' rfl rfl,by simpa using h.1,λi a b h1 h2=>h.2 (i+1) a b Yo Xb⟩
def L4.mono {R':Pr}(hR:R.le R'){es eI:List pD}(h:L4 S K R es eI):L4 S K R' es eI:=⟨h.1,λi e e' h1 h2=>(h.2 i e e' h1 h2).mono hR⟩
theorem xF.eq_iff (hR:uM P K R){a a' b b':Option bC}(h:xF R a a')(h':xF R b b'):(a==b)=(a'==b'):=by
 cases h with
 |none=>cases h' with
  |none=>rfl
  |some y=>rfl
 |some x=>cases h' with
  |none=>rfl
  |some y=>
   cases x with
   |mk x=>
    cases y with
    |mk y=>
     rw[Ng];simp only[beq_iff_eq,jS,bC.mk.injEq];exact⟨λe=>⟨hR.inj _ _ _ (.inl (e.1▸x)) (.inl y),e.2⟩,λe=>⟨hR.inj' _ _ _ (.inl (e.1▸x)) (.inl y),e.2⟩⟩
def Flat:aF->Prop
 | .tuple _| .agg _| .iface _ _| .nilFunc=>False
 |_=>True
variable {x x' y:aF}
theorem zFY (hR:uM P K R)(n:Nat){y':aF}(fx:Flat x)(fy:Flat y)(hx:VR S K R x x')(hy:VR S K R y y'):zbB n x y=zbB n x' y':=by
 cases n<;>(
  cases hx with
  |pointer h1=>cases hy with
   |pointer h2=>exact xF.eq_iff hR h1 h2
   |junk h=>exact fy.elim
   |_=>rfl
  |chan h1=>cases hy with
   |chan h2=>exact Fo.eq_iff hR.inj hR.inj' h1 h2
   |junk h=>exact fy.elim
   |_=>rfl
  |junk h=>exact fx.elim
  |iface h1=>exact fx.elim
  |agg h1=>exact fx.elim
  |tuple h1=>exact fx.elim
  |_=>cases hy<;>first|rfl|exact fy.elim)
variable {t:aN}{d:zbD}
theorem zk2 (hd:P.underlying t=some d)(ok:zao d=true)(h:¬(Flat x/\Flat y)):eY P (Ad t x y):=by
 have e:Ad t x y=D3 (9999+1) t x y:=rfl;rw[e];unfold D3;have hu:∀w,(underlying t).run P.g w=.ok d w:=λw=>by
  have:P.g.underlying t=some d:=hd;simp[underlying,program,bK,bind,dA.bind,pure,this]
 have key:∀{f:zbD->dA Bool},eY P (f d)->eY P (underlying t>>=f):=λ{f} hf w hw=>by
  obtain⟨h1,w1,h2,h3⟩:=hf w hw;refine⟨h1,w1,?_,h3⟩;have:=uG P.g (underlying t) f w;rw[hu] at this;exact this.trans h2
 refine key ?_;cases d<;>first|(cases ok;done)|skip
 all_goals(cases x<;>cases y<;>first
  |exact(h ⟨True.intro,True.intro⟩).elim
  |exact bQ
  |exact lS
  |(split<;>first|exact bQ|exact lS|(simp_all;done)))
theorem zBE {b:Bool}(h:wN d x y=some b):Flat x/\Flat y:=by
 cases x<;>cases d<;>first|(simp[wN] at h;done)|(cases y<;>first|exact⟨trivial,trivial⟩|(simp[wN] at h;done))
variable {k k':aF}
theorem zFH (d:zbD){e e':aF}(f1:Flat k)(f2:Flat e)(hk:VR S K R k k')(he:VR S K R e e'):wN d k e=wN d k' e':=by
 cases hk with
 |junk _=>exact f1.elim
 |int i n=>cases he with
  |int i n=>rfl
  |junk _=>exact f2.elim
  |_=>cases d<;>rfl
 |string s=>cases he with
  |string s=>rfl
  |junk _=>exact f2.elim
  |_=>cases d<;>rfl
 |bool s=>cases he with
  |bool s=>rfl
  |junk _=>exact f2.elim
  |_=>cases d<;>rfl
 |_=>cases d<;>rfl
inductive OfR (S:aO->Prop)(K R:Pr)(F:Nat->Prop):Option (Nat×aF)->Option (Nat×aF)->Prop
 |none:OfR S K R F none none
 |some {i:Nat} {v v':aF}:VR S K R v v'->F i->OfR S K R F (some (i,v)) (some (i,v'))
structure Mp (P:dM)(t:aN):Prop where
 ex:∃d,P.underlying t=some d/\zao d=true
 nc:∀k,P.underlying t=some (.int k)->zmb P t
theorem zmt (ht:Mp P t)(hR:uM P K R){y':aF}(hx:VR S K R x x')(hy:VR S K R y y'):aG P S K mE (Ad t x y) R (Ad t x' y'):=by
 obtain⟨d,hd,ok⟩:=ht.ex;have e:∀a b,Ad t a b=D3 (9999+1) t a b:=λa b=>rfl;rw[e,e];exact zG7 9999 t d hd ok (λk e=>ht.nc k (e▸hd)) hR hx hy
theorem zB9 (hd:P.underlying t=some d)(h:wN d x y=some false)(w:aE):(Ad t x y).run P.g w=.ok false w:=by
 have e:Ad t x y=D3 (9999+1) t x y:=rfl;have hg:P.g.underlying t=some d:=hd;have hu:(underlying t).run P.g w=.ok d w:=by simp[underlying,program,bK,bind,dA.bind,pure,hg]
 rw[e];unfold D3;refine(uG P.g (underlying t) _ w).trans ?_;rw[hu]
 cases x with
 |bool a=>
  cases d with
  |bool=>
   cases y with
   |bool b=>
    have h':(a==b)=false:=by simpa[wN] using h
    show bK P.g (pure (a==b)) w=_;rw[h'];rfl
   |_=>simp[wN] at h
  |_=>simp[wN] at h
 |string a=>
  cases d with
  |string=>
   cases y with
   |string b=>
    have h':(a==b)=false:=by simpa[wN] using h
    show bK P.g (pure (a==b)) w=_;rw[h'];rfl
   |_=>simp[wN] at h
  |_=>simp[wN] at h
 |int k a=>
  cases d with
  |int dk=>
   cases y with
   |int k' b=>
    simp only[wN] at h;split at h
    .next hk=>
     have h':(a==b)=false:=by simpa using h
     show bK P.g (if k=k' then pure (a==b) else stuck "==: kinds differ") w=_;rw[if_pos hk,h'];rfl
    .cases h
   |_=>simp[wN] at h
  |_=>simp[wN] at h
 |_=>cases d<;>simp[wN] at h
theorem zs3 (hd:P.underlying t=some d)(ok:zao d=true)(hk:VR S K R k k'){F:Nat->Prop}:∀(es eI:List pD) (i:Nat),L4 S K R es eI->(∀j e,es[j]? =some e->Flat k->Flat e.key->F (i+j))->
 (H7 d k es i=none/\eY P (Mb t k es i))\/(H7 d k es i=none/\H7 d k' eI i=none)\/∃r r',H7 d k es i=some r/\H7 d k' eI i=some r'/\OfR S K R F r r'
 |[],[],i,h,_=>.inr (.inr ⟨_,_,rfl,rfl,.none⟩)
 |[],_::_,i,h,_=>by have:=h.1;simp at this
 |_::_,[],i,h,_=>by have:=h.1;simp at this
 |e::es,e'::eI,i,h,hF=>by
  obtain⟨h1,h2⟩:=h.cons
  cases h1 with
  |mk qZ hv=>
   rename_i ek ek' ev ev' born;by_cases hf:Flat k/\Flat ek
   .unfold H7
    simp only[<-zFH d hf.1 hf.2 hk qZ]
    cases hs:wN d k ek with
    |none=>simp_all
    |some b=>cases b with
     |true=>exact .inr (.inr ⟨_,_,rfl,rfl,.some hv zxt⟩)
     |false=>
      rcases zs3 hd ok hk es eI (i+1) h2 (λj e he a b=>by have:=hF (j+1) e (by simpa using he) a b;rwa [show i+1+j=i+(j+1) by omega]) with⟨hq,hn⟩|hr
      .refine .inl ⟨hq,λw hw=>?_⟩
       obtain⟨hh,w1,q1,q2⟩:=hn w hw;refine⟨hh,w1,?_,q2⟩;unfold Mb;refine(uG P.g _ _ w).trans ?_;rw[zB9 hd hs w];exact q1
      .exact .inr hr
   .refine .inl ⟨?_,?_⟩
    .unfold H7
     cases hs:wN d k ek with
     |none=>rfl
     |some b=>exact absurd (zBE hs) hf
    .unfold Mb
     exact(zk2 hd ok hf).bnd _
theorem zt7 (ht:Mp P t):∀(es eI:List pD) (i:Nat) {R:Pr} {k k':aF} {F:Nat->Prop},uM P K R->VR S K R k k'->L4 S K R es eI->(∀j e,es[j]? =some e->Flat k->Flat e.key->F (i+j))->
 aG P S K (λR' a b=>OfR S K R' F a b) (Mb t k es i) R (Mb t k' eI i)
 |[],[],i,R,k,k',F,hR,hk,h,hF=>aG.ret .none
 |[],_::_,i,R,k,k',F,hR,hk,h,hF=>by have:=h.1;simp at this
 |_::_,[],i,R,k,k',F,hR,hk,h,hF=>by have:=h.1;simp at this
 |e::es,e'::eI,i,R,k,k',F,hR,hk,h,hF=>by
  obtain⟨h1,h2⟩:=h.cons
  cases h1 with
  |mk qZ hv=>
   rename_i ek ek' ev ev' born;by_cases hf:Flat k/\Flat ek
   rotate_left
   .obtain⟨d,hd,ok⟩:=ht.ex
    refine .inl ?_;unfold Mb;exact(zk2 hd ok hf).bnd _
   unfold Mb;refine aG.bnd (zmt ht hR hk qZ) ?_;rintro R1 hx b _ rfl
   cases b with
   |true=>exact aG.ret (.some (hv.mono hx.le) zxt)
   |false=>exact zt7 ht es eI (i+1) (hx.ok hR) (hk.mono hx.le) (h2.mono hx.le) (λj e he a b=>by have:=hF (j+1) e (by simpa using he) a b;rwa [show i+1+j=i+(j+1) by omega])
variable {i:Nat}
theorem rT.get (h:rT S K R es eI)(hi:es[i]? =some e):∃e',eI[i]? =some e'/\Cq S K R e e':=by
 have:i<eI.size:=by rw[<-h.1];exact(dR.1 hi).1
 exact⟨_,pK this,h.2 i e _ hi (pK this)⟩
theorem rT.none (h:rT S K R es eI)(hi:es[i]? =none):eI[i]? =none:=by
 rw[ztY] at hi⊢;rw[<-h.1];exact hi
theorem rT.modify (h:rT S K R es eI)(i:Nat){f f':pD->pD}(hf:∀e e',Cq S K R e e'->Cq S K R (f e) (f' e')):rT S K R (es.modify i f) (eI.modify i f'):=by
 refine⟨by simpa using h.1,λk e e' h1 h2=>?_⟩;rw[zr4] at h1 h2;split at h1
 .next e1=>
  rw[if_pos e1] at h2
  cases q:es[k]? with
  |none=>rw[q] at h1;cases h1
  |some u=>
   obtain⟨u',q',r⟩:=h.get q
   grind
 .next e1=>
  rw[if_neg e1] at h2;exact h.2 k e e' h1 h2
theorem rT.push (h:rT S K R es eI)(he:Cq S K R e e'):rT S K R (es.push e) (eI.push e'):=by
 refine⟨by simpa using h.1,λk a a' h1 h2=>?_⟩;rw[zlI] at h1 h2;rw[<-h.1] at h2;split at h1
 .simp_all
 .next e1=>
  rw[if_neg e1] at h2;exact h.2 k a a' h1 h2
theorem rT.erase (h:rT S K R es eI)(i:Nat):rT S K R (es.eraseIdxIfInBounds i) (eI.eraseIdxIfInBounds i):=by
 unfold Array.eraseIdxIfInBounds;split
 .next hi=>
  have kN:i<eI.size:=h.1▸hi;rw[dif_pos kN];refine⟨by simp[h.1],λk a a' h1 h2=>?_⟩;rw[Array.getElem?_eraseIdx] at h1 h2;split at h1
  .next e1=>rw[if_pos e1] at h2;exact h.2 _ _ _ h1 h2
  .next e1=>rw[if_neg e1] at h2;exact h.2 _ _ _ h1 h2
 .next hi=>
  have kN:¬i<eI.size:=h.1▸hi
  grind
theorem zh1 (ht:Mp P t)(hR:uM P K R)(hk:VR S K R k k'){es eI:List pD}(he:L4 S K R es eI):
 aG P S K (λR' a b=>OfR S K R' (λi=>Flat k/\∀e,es[i]? =some e->Flat e.key) a b) (Lc t k es) R (Lc t k' eI):=by
 unfold Lc;refine aG.bnd (nC t) ?_;rintro R1 h1 d _ ⟨rfl,hd⟩;obtain⟨d',Kx,ok⟩:=ht.ex;obtain rfl:d'=d:=by simp_all
 have hF:∀j e,es[j]? =some e->Flat k->Flat e.key->Flat k/\∀e,es[0+j]? =some e->Flat e.key:=λj e he a b=>⟨a,λe2 zKD=>by simp_all⟩;rcases zs3 (F:=λi=>Flat k/\∀e,es[i]? =some e->Flat e.key) hd ok (hk.mono h1.le) es eI 0 (he.mono h1.le) hF with⟨e1,hn⟩|⟨e1,e2⟩|⟨r,r',e1,e2,h⟩
 .rw[e1]
  exact .inl hn
 .rw[e1,e2]
  exact zt7 ht es eI 0 (h1.ok hR) (hk.mono h1.le) (he.mono h1.le) hF
 .rw[e1,e2]
  exact aG.ret h
theorem zA8 (n:Nat)(ht:Mp P t)(b:Bool)(k k':aF):aG P S K mE (Hn b (n+1) t k) R (Hn b (n+1) t k'):=by
 obtain⟨d,hd,ok⟩:=ht.ex;unfold Hn;refine aG.bnd (nC t) ?_;rintro R1 h1 d' _ ⟨rfl,Kx⟩;obtain rfl:d'=d:=by simp_all
 cases d' with
 |interface _=>cases ok
 |array _ _=>cases ok
 |struct _=>cases ok
 |_=>exact aG.ret rfl
def zf9 (ht:Mp P t)(b:Bool)(k k':aF):aG P S K mE (Hn b 10000 t k) R (Hn b 10000 t k'):=zA8 9999 ht b k k'
theorem zzs (hR:uM P K R){a a' b b':aF}(fa:Flat a)(fb:Flat b)(ha:VR S K R a a')(hb:VR S K R b b'):aG P S K (VA S K) (Qr a b) R (Qr a' b'):=by
 unfold Qr;rw[zFY hR 10000 fa fb ha hb];split
 .exact aG.ret hb
 .refine aG.bnd (ze6 _) ?_
  rintro R1 h1 n _ rfl;refine aG.ret ?_;split
  .exact hb.mono h1.le
  .exact ha.mono h1.le
theorem rT.keyD (h:rT S K R es eI)(i:Nat)(hk:VR S K R k k'):VR S K R (((es[i]?).map (·.key)).getD k) (((eI[i]?).map (·.key)).getD k'):=by
 cases q:es[i]? with
 |none=>rw[h.none q];exact hk
 |some e=>
  obtain⟨e',q',r⟩:=h.get q;rw[q']
  cases r with
  |mk a b=>exact a
theorem zGE (h:Flat k/\∀e,es.toList[i]? =some e->Flat e.key):Flat (((es[i]?).map (·.key)).getD k):=by grind
theorem rT.isEmpty (h:rT S K R es eI):es.isEmpty=eI.isEmpty:=by simp[Array.isEmpty,h.1]
theorem zId (hz:Kf P S)(ht:∀k e,P.underlying t=some (.map k e)->Mp P k)(hR:uM P K R)(hx:VR S K R x x')(hk:VR S K R k k')(c:Bool):
 aG P S K (VA S K) (Ac t x k c) R (Ac t x' k' c):=by
 unfold Ac;refine aG.bnd (nC t) ?_;rintro R1 h1 d _ ⟨rfl,hd⟩
 cases d with
 |map kt el=>
  have hK:=ht kt el hd
  have tail:∀R2,yF P K R1 R2->∀es eI,rT S K R2 es eI->aG P S K (VA S K)
   (do
    Hn es.isEmpty 10000 kt k
    let r<-Lc kt k es.toList
    match r with
    |some (_,v)=>do let x<-pure (v,true);pure (if c=true then Yp #[x.fst,.bool x.snd] else x.fst)
    |none=>do let z<-zeroValue el;let x<-pure (z,false);pure (if c=true then Yp #[x.fst,.bool x.snd] else x.fst)) R2
   (do
    Hn eI.isEmpty 10000 kt k'
    let r<-Lc kt k' eI.toList
    match r with
    |some (_,v)=>do let x<-pure (v,true);pure (if c=true then Yp #[x.fst,.bool x.snd] else x.fst)
    |none=>do let z<-zeroValue el;let x<-pure (z,false);pure (if c=true then Yp #[x.fst,.bool x.snd] else x.fst)):=by
   intro R2 h2 es eI he;rw[he.isEmpty];refine aG.bnd (zf9 hK _ _ _) ?_;rintro R3 h3 _ _ rfl;have Y3:=h3.ok (h2.ok (h1.ok hR));have J5:=((hk.mono h1.le).mono h2.le).mono h3.le;have fin:∀{R5:Pr} {v v':aF} {b:Bool},VR S K R5 v v'->aG P S K (VA S K) (do let x<-pure (v,b);pure (if c=true then Yp #[x.fst,.bool x.snd] else x.fst)) R5 (do let x<-pure (v',b);pure (if c=true then Yp #[x.fst,.bool x.snd] else x.fst)):=by
    intro R5 v v' b hv;refine aG.bnd (aG.ret (A:=λR (a b:aF×Bool)=>VR S K R a.1 b.1/\a.2=b.2) ⟨hv,rfl⟩) ?_;rintro R5 h5 ⟨v,b⟩ ⟨v',b'⟩ ⟨hv,e⟩;cases e
    cases c with
    |true=>exact aG.ret (VR.tuple' ((bO.empty.push hv).push (.bool b)))
    |false=>exact aG.ret hv
   refine aG.bnd (zh1 hK Y3 J5 (he.mono h3.le).toList) ?_;intro R4 h4 r r' hr
   cases hr with
   |some hv=>exact fin hv
   |none=>
    refine aG.bnd (Qk hz el) ?_;simp_all
  cases hx with
  |map h=>
   cases h with
   |none=>exact aG.bnd (aG.ret (A:=λR a b=>rT S K R a b) ⟨rfl,λi e e' h=>by simp at h⟩) tail
   |some h=>
    refine aG.bnd (Si (h1.le _ _ h)) ?_;intro R2 h2 o o' ho
    cases ho with
    |map he=>grind
    |_=>exact .inl (bQ.bnd _)
  |_=>exact .inl (bQ.bnd _)
 |_=>exact .inl bQ
theorem zFo (ht:∀k e,P.underlying t=some (.map k e)->Mp P k)(hR:uM P K R){v v':aF}(hx:VR S K R x x')(hk:VR S K R k k')(hv:VR S K R v v'):
 aG P S K mE (Hp t x k v) R (Hp t x' k' v'):=by
 unfold Hp;refine aG.bnd (nC t) ?_;rintro R1 h1 d _ ⟨rfl,hd⟩
 cases d with
 |map kt el=>
  have hK:=ht kt el hd
  cases hx with
  |map h=>
   cases h with
   |none=>exact .inl vW
   |some h=>
    refine aG.bnd (Si (h1.le _ _ h)) ?_;intro R2 h2 o o' ho
    cases ho with
    |map he=>
     rename_i cl;refine aG.bnd (zf9 hK _ _ _) ?_;rintro R3 h3 _ _ rfl;have Y3:=h3.ok (h2.ok (h1.ok hR));have J5:=((hk.mono h1.le).mono h2.le).mono h3.le;have E8:=h3.le _ _ (h2.le _ _ (h1.le _ _ h));have Hd:=((hv.mono h1.le).mono h2.le).mono h3.le;refine aG.bnd (zh1 hK Y3 J5 (he.mono h3.le).toList) ?_;intro R4 h4 r r' hr
     cases hr with
     |some hq zhr=>
      refine aG.bnd (zzs (h4.ok Y3) (zGE zhr) zhr.1 (((he.mono h3.le).mono h4.le).keyD _ (J5.mono h4.le)) (J5.mono h4.le)) ?_;intro R5 h5 kk Js gI;refine zcN (h5.le _ _ (h4.le _ _ E8)) (.map (rT.modify (((he.mono h3.le).mono h4.le).mono h5.le) _ ?_));intro e e' zFK
      cases zFK with
      |mk a b=>exact .mk gI ((Hd.mono h4.le).mono h5.le)
     |none=>exact zcN (h4.le _ _ E8) (.map (rT.push ((he.mono h3.le).mono h4.le) (.mk (J5.mono h4.le) (Hd.mono h4.le))))
    |_=>exact .inl bQ
  |_=>exact .inl bQ
 |_=>exact .inl bQ
end
section
variable {P:dM}{S:aO->Prop}{K:Pr}{α β γ δ:Type}{R:Pr}
variable {xs bZ:Array aF}
theorem bO.opt (h:bO S K R xs bZ)(i:Nat):Ag S K R xs[i]? bZ[i]? :=by
 cases q:xs[i]? with
 |none=>rw[h.none q];exact .none
 |some v=>obtain⟨v',q',hv⟩:=h.get q;rw[q'];exact .some hv
theorem sim_len (ts:Array aN)(t:aN)(h:bO S K R xs bZ):aG P S K (VA S K) (zjD ts t xs) R (zjD ts t bZ):=by
 unfold zjD
 cases ts[0]? with
 |none=>exact .inl bQ
 |some t=>
  have ho:=h.opt 0;generalize xs[0]? =o at ho;generalize bZ[0]? =o' at ho
  cases ho with
  |none=>exact .inl bQ
  |some hv=>
   simp only;refine aG.bnd (nC t) ?_;rintro R1 h1 d _ ⟨rfl,hd⟩
   cases d with
   |string=>cases hv with
    |string s=>exact aG.ret (.int _ _)
    |_=>exact .inl bQ
   |array n e=>exact aG.ret (.int _ _)
   |pointer arr=>
    refine aG.bnd (nC arr) ?_;rintro R2 h2 d2 _ ⟨rfl,Az⟩
    cases d2 with
    |array n e=>exact aG.ret (.int _ _)
    |_=>exact .inl bQ
   |slice e=>cases hv with
    |slice _=>exact aG.ret (.int _ _)
    |_=>exact .inl bQ
   |map k e=>cases hv with
    |map hm=>cases hm with
     |none=>exact aG.ret (.int _ _)
     |some hm=>
      refine aG.bnd (Si (h1.le _ _ hm)) ?_;intro R2 h2 o o' ho
      cases ho with
      |map he=>simp only;rw[he.1];exact aG.ret (.int _ _)
      |_=>exact .inl bQ
    |_=>exact .inl bQ
   |chan k e=>cases hv with
    |chan hm=>cases hm with
     |none=>exact aG.ret (.int _ _)
     |some hm=>
      refine aG.bnd (zuq (hm.imp (h1.le _ _) id)) ?_;intro R2 h2 o o' ho
      cases ho with
      |chan he=>simp only;rw[he.1];exact aG.ret (.int _ _)
      |_=>exact .inl bQ
    |_=>exact .inl bQ
   |_=>exact .inl bQ
theorem sim_cap (ts:Array aN)(t:aN)(h:bO S K R xs bZ):aG P S K (VA S K) (zjb ts t xs) R (zjb ts t bZ):=by
 unfold zjb
 cases ts[0]? with
 |none=>exact .inl bQ
 |some t=>
  have ho:=h.opt 0;generalize xs[0]? =o at ho;generalize bZ[0]? =o' at ho
  cases ho with
  |none=>exact .inl bQ
  |some hv=>
   simp only;refine aG.bnd (nC t) ?_;rintro R1 h1 d _ ⟨rfl,hd⟩
   cases d with
   |array n e=>exact aG.ret (.int _ _)
   |pointer arr=>
    refine aG.bnd (nC arr) ?_;rintro R2 h2 d2 _ ⟨rfl,Az⟩
    cases d2 with
    |array n e=>exact aG.ret (.int _ _)
    |_=>exact .inl bQ
   |slice e=>cases hv with
    |slice _=>exact aG.ret (.int _ _)
    |_=>exact .inl bQ
   |chan k e=>cases hv with
    |chan hm=>cases hm with
     |none=>exact aG.ret (.int _ _)
     |some hm=>
      refine aG.bnd (zuq (hm.imp (h1.le _ _) id)) ?_;intro R2 h2 o o' ho
      cases ho with
      |chan he=>exact aG.ret (.int _ _)
      |_=>exact .inl bQ
    |_=>exact .inl bQ
   |_=>exact .inl bQ
variable {ts:Array aN}
theorem zII (t:aN)(ht:∀mt k e,ts[0]? =some mt->P.underlying mt=some (.map k e)->Mp P k)(hR:uM P K R)(h:bO S K R xs bZ):
 aG P S K (VA S K) (Lt ts t xs) R (Lt ts t bZ):=by
 unfold Lt
 cases e0:ts[0]? with
 |none=>exact .inl bQ
 |some mt=>
  have ho:=h.opt 0;have y6:=h.opt 1;generalize xs[0]? =o at ho;generalize bZ[0]? =o' at ho;generalize xs[1]? =p at y6;generalize bZ[1]? =p' at y6
  cases ho with
  |none=>exact .inl bQ
  |some hm=>
   cases y6 with
   |none=>exact .inl bQ
   |some hk=>
    simp only;refine aG.bnd (nC mt) ?_;rintro R1 h1 d _ ⟨rfl,hd⟩
    cases d with
    |map kt el=>
     have hK:=ht mt kt el e0 hd;have fin:∀{R2:Pr},aG P S K (VA S K) (pure (.tuple #[])) R2 (pure (.tuple #[])):=aG.ret (VR.tuple' bO.empty)
     cases hm with
     |map hm=>
      cases hm with
      |none=>exact aG.bnd (zf9 hK _ _ _) (λ_ _ _ _ _=>fin)
      |some hm=>
       refine aG.bnd (Si (h1.le _ _ hm)) ?_;intro R2 h2 o o' ho
       cases ho with
       |map he=>
        simp only;rw[he.isEmpty];refine aG.bnd (zf9 hK _ _ _) ?_;rintro R3 h3 _ _ rfl;have Y3:=h3.ok (h2.ok (h1.ok hR));have J5:=((hk.mono h1.le).mono h2.le).mono h3.le;have E8:=h3.le _ _ (h2.le _ _ (h1.le _ _ hm));refine aG.bnd (zh1 hK Y3 J5 (he.mono h3.le).toList) ?_;intro R4 h4 r r' hr
        cases hr with
        |some hq=>exact aG.bnd (zcN (h4.le _ _ E8) (.map (((he.mono h3.le).mono h4.le).erase _))) (λ_ _ _ _ _=>fin)
        |none=>exact aG.bnd (zcN (h4.le _ _ E8) (.map ((he.mono h3.le).mono h4.le))) (λ_ _ _ _ _=>fin)
       |_=>exact .inl (bQ.bnd _)
     |_=>exact .inl (bQ.bnd _)
    |_=>exact .inl bQ
variable {x':aF}
theorem zyj {x:aF}(h:VR S K R x x'):aG P S K mE (zqj x) R (zqj x'):=by
 cases h with
 |slice _=>exact aG.ret rfl
 |string s=>exact aG.ret rfl
 |_=>exact .inl bQ
theorem zc6 (size n:Nat){x:aF}(h:VR S K R x x'):aG P S K (λR a b=>bO S K R a b) (Rv size n x) R (Rv size n x'):=by
 cases h with
 |slice ha=>cases ha with
  |none=>exact aG.ret bO.empty
  |some ha=>exact znv ha _
 |string s=>
  refine aG.ret ⟨rfl,λi v v' h1 h2=>?_⟩;rw[h1] at h2;injection h2 with e;subst e;rw[Gq] at h1
  cases q:(s.extract 0 n).data[i]? with
  |none=>rw[q] at h1;cases h1
  |some b=>rw[q] at h1;cases h1;exact .int _ _
 |_=>exact .inl bQ
theorem zen {z z':Array aF}(h:bO S K R z z')(n:Nat):bO S K R (qM z n) (qM z' n):=by
 refine⟨by simp[qM,h.1],λi v v' h1 h2=>?_⟩;unfold qM at h1 h2;rw[Gq] at h1 h2;rw[<-h.1] at h2
 cases q:(N2 (n*z.size))[i]? with
 |none=>rw[q] at h1;cases h1
 |some j=>
  rw[q] at h1 h2;cases h1;cases h2
  cases q1:z[j%z.size]? with
  |none=>
   have q2:=h.none q1;show VR S K R (z[j%z.size]!) (z'[j%z.size]!);rw[getElem!_def,getElem!_def,q1,q2];exact .bool false
  |some u=>
   obtain⟨u',q2,hu⟩:=h.get q1
   grind
theorem zIL {A:Pr->γ->δ->Prop}{F:Bool->dA γ}{F':Bool->dA δ}(o:Option aN)(hi:∀xt d,o=some xt->P.underlying xt=some d->∀k,d≠ .int k)(hF:∀R3,yF P K R R3->aG P S K A (F false) R3 (F' false)):
 aG P S K A (match(generalizing:=false) o with|some xt=>do let l<-underlying xt;let zeros<-pure (match l with| .int k=>true|x=>false);F zeros|none=>do let zeros<-pure false;F zeros) R
  (match(generalizing:=false) o with|some xt=>do let l<-underlying xt;let zeros<-pure (match l with| .int k=>true|x=>false);F' zeros|none=>do let zeros<-pure false;F' zeros):=by
 cases o with
 |none=>
  refine aG.bnd (aG.ret (A:=λ_ a b=>a=false/\b=false) ⟨rfl,rfl⟩) ?_;simp_all
 |some xt=>
  refine aG.bnd (nC xt) ?_;simp_all
theorem zF6 (hz:Kf P S)(t:aN)(hi:∀xt d,ts[1]? =some xt->P.underlying xt=some d->∀k,d≠ .int k)(h:bO S K R xs bZ):
 aG P S K (VA S K) (xG ts t xs) R (xG ts t bZ):=by
 unfold xG
 cases e0:ts[0]? with
 |none=>exact .inl bQ
 |some st=>
  have ho:=h.opt 0;have y6:=h.opt 1;generalize xs[0]? =o at ho;generalize bZ[0]? =o' at ho;generalize xs[1]? =p at y6;generalize bZ[1]? =p' at y6
  cases ho with
  |none=>exact .inl bQ
  |some hs=>
   cases y6 with
   |none=>exact .inl bQ
   |some hx=>
    rename_i s s' x x';simp only;refine aG.bnd (nC st) ?_;rintro R1 h1 d _ ⟨rfl,hd⟩
    cases d with
    |slice elem=>
     cases hs with
     |slice hb=>
      rename_i b b' n c;refine aG.bnd (Br elem) ?_;rintro R2 h2 size _ rfl;have pU:=(hb.mono h1.le).mono h2.le;have zW:=(hx.mono h1.le).mono h2.le;refine zIL ts[1]? hi ?_;intro R3 h3;simp only[Bool.not_false,if_true,jG,if_false,false_or];refine aG.bnd (zyj (zW.mono h3.le)) ?_;rintro R4 h4 m _ rfl;have Qq:=(pU.mono h3.le).mono h4.le;have zq3:=(zW.mono h3.le).mono h4.le;split
      .refine aG.bnd (zc6 size m zq3) ?_
       intro R5 h5 w w' hw;have zaj:=Qq.mono h5.le
       cases zaj with
       |none=>exact aG.ret (.slice .none)
       |some ha=>
        refine aG.bnd (Zq _ _ 0 (ha.add _) hw.toList) ?_;rintro R6 h6 _ _ rfl;exact aG.ret (.slice (.some (ha.mono h6.le)))
      .refine aG.bnd (Fu elem) ?_
       rintro R5 h5 inf _ ⟨rfl,zKB⟩;split
       .exact .inl (vW.bnd _)
       .refine aG.bnd (Fu elem) ?_
        rintro R6 h6 zH4 _ ⟨rfl,zqU⟩;have uN:=(Qq.mono h5.le).mono h6.le;have zwM:=(zq3.mono h5.le).mono h6.le;split
        .refine .inl (eY.bnd (eY.then (zHt _ _ _ _ _) λsh=>?_) _)
         split
         .exact eY.then (zEe _) λ_=>lS
         .exact lS
        .refine aG.bnd (ze6 _) ?_
         rintro R7 h7 nc _ rfl;refine aG.bnd (Fu elem) ?_;rintro R8 h8 zBF _ ⟨rfl,zEf⟩;refine aG.bnd (znc _) ?_;rintro R9 h9 _ _ rfl;have yL:=((uN.mono h7.le).mono h8.le).mono h9.le;have zEz:=((zwM.mono h7.le).mono h8.le).mono h9.le;refine aG.bnd (zc6 size n (.slice yL)) ?_;intro zGj vY o o' ho;refine aG.bnd (zc6 size m (zEz.mono vY.le)) ?_;intro zH7 Va w w' hw;refine aG.bnd (Qk hz elem) ?_;intro zzx Uh z z' qI;refine aG.bnd (zbE elem (((ho.mono (Va.trans Uh).le).append (hw.mono Uh.le)).append (zen qI.cells _))) ?_;intro zD3 zEE r r' hr;exact aG.ret (.slice (.some hr))
     |_=>exact .inl bQ
    |_=>exact .inl bQ
theorem zHB (ts:Array aN)(t:aN)(h:bO S K R xs bZ):aG P S K (VA S K) (Ep ts t xs) R (Ep ts t bZ):=by
 unfold Ep
 cases e0:ts[0]? with
 |none=>exact .inl bQ
 |some st=>
  have ho:=h.opt 0;have y6:=h.opt 1;generalize xs[0]? =o at ho;generalize bZ[0]? =o' at ho;generalize xs[1]? =p at y6;generalize bZ[1]? =p' at y6
  cases ho with
  |none=>exact .inl bQ
  |some hs=>
   cases y6 with
   |none=>exact .inl bQ
   |some hx=>
    simp only;refine aG.bnd (nC st) ?_;rintro R1 h1 d _ ⟨rfl,hd⟩
    cases d with
    |slice elem=>
     cases hs with
     |slice hb=>
      refine aG.bnd (zyj (hx.mono h1.le)) ?_;rintro R2 h2 m _ rfl;refine aG.bnd (Br elem) ?_;rintro R3 h3 size _ rfl;refine aG.bnd (zc6 size _ (((hx.mono h1.le).mono h2.le).mono h3.le)) ?_;intro R4 h4 w w' hw;have Qq:=(((hb.mono h1.le).mono h2.le).mono h3.le).mono h4.le
      cases Qq with
      |none=>exact aG.ret (.int _ _)
      |some ha=>
       refine aG.bnd (Zq _ _ 0 ha hw.toList) ?_;rintro R6 h6 _ _ rfl;exact aG.ret (.int _ _)
     |_=>exact .inl bQ
    |_=>exact .inl bQ
theorem aG.ite {α β:Type}{A:Pr->α->β->Prop}{c:Prop}[Decidable c]{s t:dA α}{s' t':dA β}(h1:c->aG P S K A s R s')(h2:¬c->aG P S K A t R t'):aG P S K A (if c then s else t) R (if c then s' else t'):=by grind
variable {xt:aN}{k:Cn}
theorem zCf {A:Pr->γ->δ->Prop}{F:Bool->dA γ}{F':Bool->dA δ}(hi:P.underlying xt=some (.int k))(hF:∀R3,yF P K R R3->aG P S K A (F true) R3 (F' true)):
 aG P S K A (match(generalizing:=false) (some xt:Option aN) with|some xt=>do let l<-underlying xt;let zeros<-pure (match l with| .int k=>true|x=>false);F zeros|none=>do let zeros<-pure false;F zeros) R
  (match(generalizing:=false) (some xt:Option aN) with|some xt=>do let l<-underlying xt;let zeros<-pure (match l with| .int k=>true|x=>false);F' zeros|none=>do let zeros<-pure false;F' zeros):=by
 refine aG.bnd (nC xt) ?_;simp_all
theorem zD4 (hz:Kf P S)(t:aN)(e1:ts[1]? =some xt)(hi:P.underlying xt=some (.int k))(h:bO S K R xs bZ):
 aG P S K (VA S K) (xG ts t xs) R (xG ts t bZ):=by
 unfold xG
 cases e0:ts[0]? with
 |none=>exact .inl bQ
 |some st=>
  have ho:=h.opt 0;have y6:=h.opt 1;generalize xs[0]? =o at ho;generalize bZ[0]? =o' at ho;generalize xs[1]? =p at y6;generalize bZ[1]? =p' at y6
  cases ho with
  |none=>exact .inl bQ
  |some hs=>
   cases y6 with
   |none=>exact .inl bQ
   |some hx=>
    rename_i s s' x x';simp only;refine aG.bnd (nC st) ?_;rintro R1 h1 d _ ⟨rfl,hd⟩
    cases d with
    |slice elem=>
     cases hs with
     |slice hb=>
      rename_i b b' n c;refine aG.bnd (Br elem) ?_;rintro R2 h2 size _ rfl;have pU:=(hb.mono h1.le).mono h2.le;have zW:=(hx.mono h1.le).mono h2.le;rw[e1];refine zCf hi ?_;intro R3 h3;rw[if_pos rfl,if_pos rfl];refine aG.bnd (Wx (zW.mono h3.le)) ?_;rintro R4 h4 l0 _ rfl;refine aG.ite (λ_=>.inl (eY.bnd vW _)) (λ_=>?_);refine aG.bnd (Fu elem) ?_;rintro zJk zEd zJB _ ⟨rfl,fN⟩;refine aG.ite (λ_=>.inl (eY.then (zod _) λ_=>eY.bnd vW _)) (λ_=>?_);refine aG.bnd (A:=mE) (aG.ret rfl) ?_;rintro zKU zDh m _ rfl;have Qq:=(((pU.mono h3.le).mono h4.le).mono zEd.le).mono zDh.le;have new:∀{R5:Pr},aG P S K (λR a b=>bO S K R a b) (if(!true)=true then Rv size m x else if m*size=0 then pure #[] else do pure (qM (<-zeroValue elem).cells m)) R5 (if(!true)=true then Rv size m x' else if m*size=0 then pure #[] else do pure (qM (<-zeroValue elem).cells m)):=by
       intro R5;refine aG.ite (λh=>by cases h) (λ_=>?_);refine aG.ite (λ_=>aG.ret bO.empty) (λ_=>?_);exact aG.bnd (Qk hz elem) λR6 h6 z z' qI=>aG.ret (zen qI.cells _)
      refine aG.ite (λ_=>?_) (λ_=>?_)
      .refine aG.bnd new ?_
       intro R5 h5 w w' hw;have zaj:=Qq.mono h5.le
       cases zaj with
       |none=>exact aG.ret (.slice .none)
       |some ha=>
        refine aG.bnd (Zq _ _ 0 (ha.add _) hw.toList) ?_;rintro R6 h6 _ _ rfl;exact aG.ret (.slice (.some (ha.mono h6.le)))
      .refine aG.bnd (Fu elem) ?_
       rintro zLT zDf zJC _ ⟨rfl,zZ⟩;refine aG.ite (λ_=>.inl (eY.bnd vW _)) (λ_=>?_);refine aG.bnd (Fu elem) ?_;rintro R6 h6 zH4 _ ⟨rfl,zqU⟩;have uN:=(Qq.mono zDf.le).mono h6.le;refine aG.ite (λ_=>.inl (eY.bnd (by rw[if_pos rfl];exact vW) _)) (λ_=>?_);refine aG.bnd (ze6 _) ?_;rintro R7 h7 nc _ rfl;refine aG.bnd (Fu elem) ?_;rintro R8 h8 zBF _ ⟨rfl,zEf⟩;refine aG.bnd (znc _) ?_;rintro R9 h9 _ _ rfl;have yL:=((uN.mono h7.le).mono h8.le).mono h9.le;refine aG.bnd (zc6 size n (.slice yL)) ?_;intro zGj vY o o' ho;refine aG.bnd new ?_;intro zH7 Va w w' hw;refine aG.bnd (Qk hz elem) ?_;intro zzx Uh z z' qI;refine aG.bnd (zbE elem (((ho.mono (Va.trans Uh).le).append (hw.mono Uh.le)).append (zen qI.cells _))) ?_;intro zD3 zEE r r' hr;exact aG.ret (.slice (.some hr))
     |_=>exact .inl bQ
    |_=>exact .inl bQ
theorem zFE (hz:Kf P S)(ts:Array aN)(t:aN)(h:bO S K R xs bZ):aG P S K (VA S K) (Sc ts t xs) R (Sc ts t bZ):=by
 unfold Sc
 cases e0:ts[0]? with
 |none=>exact .inl bQ
 |some st=>
  have ho:=h.opt 0;generalize xs[0]? =o at ho;generalize bZ[0]? =o' at ho;have fin:∀{R2:Pr},aG P S K (VA S K) (pure (.tuple #[])) R2 (pure (.tuple #[])):=aG.ret (VR.tuple' bO.empty)
  cases ho with
  |none=>exact .inl bQ
  |some hs=>
   simp only;refine aG.bnd (nC st) ?_;rintro R1 h1 d _ ⟨rfl,hd⟩
   cases hs with
   |map hm=>
    cases hm with
    |none=>cases d<;>exact fin
    |some hm=>
     cases d
     all_goals
      refine aG.bnd (Si (h1.le _ _ hm)) ?_;intro R2 h2 o o' ho
      cases ho with
      |map he=>exact aG.bnd (zcN (h2.le _ _ (h1.le _ _ hm)) (.map ⟨rfl,λi e e' h=>by simp at h⟩)) (λ_ _ _ _ _=>fin)
      |_=>exact .inl (by first|exact bQ|exact bQ.bnd _)
   |slice hb=>
    rename_i b b' n c
    cases hb with
    |none=>cases d<;>exact fin
    |some ha=>
     cases n with
     |zero=>cases d<;>exact fin
     |succ n=>
      cases d with
      |slice elem=>
       refine aG.bnd (Qk hz elem) ?_;intro R2 h2 z z' qI;refine aG.bnd (Zq _ _ 0 ((ha.mono h1.le).mono h2.le) (zen qI.cells _).toList) ?_;simp_all
      |_=>exact .inl (bQ.bnd _)
   |_=>cases d<;>exact .inl (bQ.bnd _)
end
section
variable {P:dM}{S:aO->Prop}{K:Pr}{α β γ δ:Type}{R:Pr}
theorem zHy (t:aN){v v':aF}(h:VR S K R v v'):aG P S K (VA S K) (zlz t v) R (zlz t v'):=by
 unfold zlz;refine aG.bnd (nC t) ?_;rintro R1 h1 d _ ⟨rfl,hd⟩
 cases d with
 |interface _=>exact .inl bQ
 |_=>exact aG.ret (.iface (h.mono h1.le))
theorem zqf {z z':Array aF}(h:bO S K R z z')(n:Nat):bO S K R ((N2 n).map (z[·%z.size]!)) ((N2 n).map (z'[·%z'.size]!)):=by
 refine⟨aQ,λi v v' h1 h2=>?_⟩;rw[Gq] at h1 h2;rw[<-h.1] at h2
 cases q:(N2 n)[i]? with
 |none=>rw[q] at h1;cases h1
 |some j=>
  rw[q] at h1 h2;cases h1;cases h2
  cases q1:z[j%z.size]? with
  |none=>
   have q2:=h.none q1;show VR S K R (z[j%z.size]!) (z'[j%z.size]!);rw[getElem!_def,getElem!_def,q1,q2];exact .bool false
  |some u=>
   obtain⟨u',q2,hu⟩:=h.get q1
   grind
theorem zoB (hz:Kf P S)(n:Nat)(e:aN){F F':Array aF->dA aF}(hF:∀R1,yF P K R R1->∀z z',bO S K R1 z z'->aG P S K (VA S K) (F z) R1 (F' z')):
 aG P S K (VA S K) (if n=0 then do let z<-pure #[];F z else do let l<-zeroValue e;let z<-pure l.cells;F z) R (if n=0 then do let z<-pure #[];F' z else do let l<-zeroValue e;let z<-pure l.cells;F' z):=by
 split
 .exact aG.bnd (aG.ret (A:=λR a b=>bO S K R a b) bO.empty) hF
 .refine aG.bnd (Qk hz e) ?_
  intro R1 h1 z z' qI;exact aG.bnd (aG.ret (A:=λR a b=>bO S K R a b) qI.cells) (λR2 h2 a b qV=>hF R2 (h1.trans h2) a b qV)
theorem zAQ (hz:Kf P S)(t:aN){l l' c c':aF}(hl:VR S K R l l')(hc:VR S K R c c'):aG P S K (VA S K) (zmK t l c) R (zmK t l' c'):=by
 unfold zmK;refine aG.bnd (nC t) ?_;rintro R1 h1 d _ ⟨rfl,hd⟩
 cases d with
 |slice elem=>
  refine aG.bnd (Wx (hl.mono h1.le)) ?_;rintro R2 h2 ln _ rfl;refine aG.bnd (Wx ((hc.mono h1.le).mono h2.le)) ?_;rintro R3 h3 cp _ rfl;refine aG.bnd (Fu elem) ?_;rintro R4 h4 inf _ ⟨rfl,hi⟩;simp only;split
  .left
   split
   .exact vW.bnd _
   .split
    .exact vW.bnd _
    .exact eY.then (zod _) λ_=>vW.bnd _
  .refine aG.bnd (znc _) ?_
   rintro R5 h5 _ _ rfl;refine aG.bnd (Br elem) ?_;rintro R6 h6 sz _ rfl;refine zoB hz _ elem ?_;intro R7 h7 z z' qI;refine aG.bnd (zbE elem (zqf qI _)) ?_;intro R8 h8 r r' hr;exact aG.ret (.slice (.some hr))
 |_=>exact .inl bQ
inductive PsR (S:aO->Prop)(K R:Pr):List (Nat×aF)->List (Nat×aF)->Prop
 |nil:PsR S K R [] []
 |cons {i:Nat} {v v':aF} {l l':List (Nat×aF)}:VR S K R v v'->PsR S K R l l'->PsR S K R ((i,v)::l) ((i,v')::l')
theorem PsR.mono {R':Pr}(hR:R.le R'){l l':List (Nat×aF)}(h:PsR S K R l l'):PsR S K R' l l':=by
 induction h with
 |nil=>exact .nil
 |cons a _ ih=>exact .cons (a.mono hR) ih
inductive OarR (S:aO->Prop)(K R:Pr):Option (Array aF)->Option (Array aF)->Prop
 |none:OarR S K R none none
 |some {c c':Array aF}:bO S K R c c'->OarR S K R (some c) (some c')
theorem zui (off:Nat):∀(l l':List aF) (j:Nat) {c c':Array aF},yU S K R l l'->bO S K R c c'->
 bO S K R ((l.zipIdx j).foldl (λcs (x:aF×Nat)=>cs.setIfInBounds (off+x.2) x.1) c) ((l'.zipIdx j).foldl (λcs (x:aF×Nat)=>cs.setIfInBounds (off+x.2) x.1) c')
 |[],[],j,c,c',_,h=>h
 |[],_::_,_,_,_,h,_=>by have:=h.1;simp at this
 |_::_,[],_,_,_,h,_=>by have:=h.1;simp at this
 |x::l,x'::l',j,c,c',h,hc=>by
  obtain⟨a,b⟩:=h.cons;simp only[List.zipIdx_cons,List.foldl_cons];exact zui off l l' (j+1) b (hc.set _ a)
theorem zlL (place:Nat->Option (Nat×Nat)):∀(l l':List (Nat×aF)) {c c':Array aF},PsR S K R l l'->bO S K R c c'->OarR S K R (Oc place c l) (Oc place c' l')
 |[],_,c,c',.nil,h=>.some h
 |(i,v)::l,(_,v')::l',c,c',.cons a b,h=>by
  unfold Oc
  cases place i with
  |none=>exact .none
  |some os=>
   obtain⟨off,size⟩:=os;have e1:=a.cells.1;have e2:=h.1;simp only;rw[e1,e2];split
   .exact .none
   .refine zlL place l l' b ?_
    have:=zui off v.cells.toList v'.cells.toList 0 a.cells.toList h;rw[<-zvY,<-zvY];simpa using this
variable {ps Tk:Array (Nat×aF)}
theorem zC1 (hz:Kf P S)(t:aN)(n:Nat)(h:PsR S K R ps.toList Tk.toList):aG P S K (VA S K) (zlt t n ps) R (zlt t n Tk):=by
 unfold zlt;refine aG.bnd (nC t) ?_;rintro R1 h1 d _ ⟨rfl,hd⟩
 cases d with
 |slice elem=>
  refine aG.bnd (Br elem) ?_;rintro R2 h2 size _ rfl;simp only;split
  .exact .inl (eY.bnd lS _)
  .refine zoB hz _ elem ?_
   intro R3 h3 z z' qI;have hf:=zlL (λi=>some (i*size,size)) _ _ (((h.mono h1.le).mono h2.le).mono h3.le) (zqf qI (n*size));revert hf;generalize Oc _ _ ps.toList=o;generalize Oc _ _ Tk.toList=o';intro hf
   cases hf with
   |none=>exact .inl bQ
   |some hc=>
    refine aG.bnd (zbE elem hc) ?_;intro R8 h8 r r' hr;exact aG.ret (.slice (.some hr))
 |_=>exact .inl bQ
theorem zvT {ι κ:Type}{f:ι->dA κ}(hf:∀x (R:Pr),aG P S K mE (f x) R (f x)):∀(l:List ι) {R:Pr},aG P S K mE (l.mapM f) R (l.mapM f)
 |[],R=>by rw[List.mapM_nil];exact aG.ret rfl
 |x::l,R=>by
  rw[List.mapM_cons];refine aG.bnd (hf x R) ?_;rintro R1 h1 a _ rfl;refine aG.bnd (zvT hf l) ?_;rintro R2 h2 b _ rfl;exact aG.ret rfl
theorem zHj (hz:Kf P S)(t:aN)(h:PsR S K R ps.toList Tk.toList):aG P S K (VA S K) (zlX t ps) R (zlX t Tk):=by
 have fin:∀{R3:Pr} (place:Nat->Option (Nat×Nat)) (Ry:String) {z z':Array aF},R.le R3->bO S K R3 z z'->aG P S K (VA S K) (match Oc place z ps.toList with|some cells=>pure (.agg cells)|_=>stuck Ry) R3 (match Oc place z' Tk.toList with|some cells=>pure (.agg cells)|_=>stuck Ry):=by
  intro R3 place Ry z z' hle qI;have hf:=zlL place _ _ (h.mono hle) qI;revert hf;generalize Oc _ _ ps.toList=o;generalize Oc _ _ Tk.toList=o';intro hf
  cases hf with
  |none=>exact .inl bQ
  |some hc=>exact aG.ret (VR.agg' hc)
 unfold zlX;refine aG.bnd (Qk hz t) ?_;intro R1 h1 z z' qI;refine aG.bnd (nC t) ?_;rintro R2 h2 d _ ⟨rfl,hd⟩
 cases d with
 |struct fields=>
  refine aG.bnd (A:=mE) ?_ ?_
  .rw[Array.mapM_eq_mapM_toList,map_eq_pure_bind]
   refine aG.bnd (zvT (λf R=>aG.bnd (Br _) (λR1 h1 a b e=>by cases e;exact aG.ret rfl)) fields.toList) ?_;rintro R3 h3 l _ rfl;exact aG.ret rfl
  .rintro R3 h3 places _ rfl
   exact fin _ _ (h1.trans (h2.trans h3)).le ((qI.cells.mono h2.le).mono h3.le)
 |array n elem=>
  refine aG.bnd (Br elem) ?_;rintro R3 h3 size _ rfl;exact fin _ _ (h1.trans (h2.trans h3)).le ((qI.cells.mono h2.le).mono h3.le)
 |_=>exact .inl bQ
end
section
variable {P:dM}{S:aO->Prop}{K:Pr}{R:Pr}
theorem zyc (op:Ob)(k:Cn)(a b:Int):aG P S K (VA S K) (zsS op k a b) R (zsS op k a b):=by
 cases op<;>first|exact aG.ret (.int _ _)|exact .inl bQ
theorem zIM (op:Ob)(k:Cn)(a b:Int):aG P S K (VA S K) (zkg op k a b) R (zkg op k a b):=by
 unfold zkg;split
 .exact .inl vW
 .cases op<;>first|exact aG.ret (.int _ _)|exact .inl bQ
theorem zxp (op:Ob)(k:Cn)(a b:Int):aG P S K (VA S K) (zoJ op k a b) R (zoJ op k a b):=by
 cases op<;>first|exact aG.ret (.int _ _)|exact .inl bQ
theorem zvw (op:Ob)(k:Cn)(a:Int)(k':Cn)(b:Int):aG P S K (VA S K) (zn3 op k a k' b) R (zn3 op k a k' b):=by
 unfold zn3;split
 .exact .inl vW
 .cases op<;>first|exact aG.ret (.int _ _)|exact .inl bQ
theorem zjO (op:Ob)(a b:Int):aG P S K (VA S K) (Op.intCmp op a b) R (Op.intCmp op a b):=by
 cases op<;>first|exact aG.ret (.bool _)|exact .inl bQ
theorem zm8 (op:Ob)(a b:ByteArray):aG P S K (VA S K) (zjh op a b) R (zjh op a b):=by
 unfold zjh;cases op<;>first|exact aG.ret (.bool _)|exact .inl bQ|skip
 simp only;split
 .exact .inl lS
 .exact aG.ret (.string _)
variable {x x':aF}
theorem zDk (op:UnOp)(h:VR S K R x x'):aG P S K (VA S K) (Op.unary op x) R (Op.unary op x'):=by
 cases h with
 |int k n=>cases op<;>first|exact zyc .sub k 0 n|exact zxp .xor k _ n|exact .inl bQ
 |bool b=>cases op<;>first|exact aG.ret (.bool _)|exact .inl bQ
 |pointer h=>cases h<;>cases op<;>first|exact .inl lS|exact .inl bQ
 |_=>cases op<;>exact .inl bQ
theorem dM.cellOfByte_g (P:dM):∀(d:Nat) (t:aN) (o:Nat),cellOfByte P.g d t o=cellOfByte P.c d t o:=by
 intro d
 induction d with
 |zero=>intro t o;rfl
 |succ d ih=>
  intro t o;unfold cellOfByte;rw[P.underlying_g];simp only[ih,P.cells_g,P.bytes_g];rfl
theorem dM.cellAtBytes_g (P:dM)(d:Nat)(e:aN)(c o:Nat)(b:Int):cellAtBytes P.g d e c o b=cellAtBytes P.c d e c o b:=by
 unfold cellAtBytes;simp only[P.cells_g,P.bytes_g,P.byteOfCell_g,P.cellOfByte_g];rfl
variable {y y':aF}
theorem zpD (ts:Array aN)(t:aN)(hx:VR S K R x x')(hy:VR S K R y y'):aG P S K (λR v v'=>∃a a',v=.pointer a/\v'=.pointer a'/\xF R a a') (Oq ts t #[x,y]) R (Oq ts t #[x',y']):=by
 unfold Oq
 cases hx with
 |pointer hp=>
  refine aG.bnd (Wx hy) ?_;rintro R1 h1 n _ rfl;by_cases hn:n=0
  .simp only[if_pos hn]
   cases hp with
   |none=>exact .inl lS
   |some ha=>
    cases ha with
    |mk hr=>
     refine aG.bnd (zwR (h1.le _ _ hr)) ?_;rintro R2 h2 _ _ ⟨rfl,rfl⟩;exact aG.ret ⟨_,_,rfl,rfl,.some (.mk (h2.le _ _ (h1.le _ _ hr)))⟩
  .simp only[if_neg hn]
   by_cases h0:n<0
   .simp only[if_pos h0]
    exact .inl (eY.bnd lS _)
   .simp only[if_neg h0]
    cases hp with
    |none=>exact .inl lS
    |some ha=>
     cases ha with
     |mk hr=>
      refine aG.bnd (zaR (h1.le _ _ hr)) ?_;rintro R2 h2 x _ rfl
      cases x with
      |none=>exact .inl lS
      |some x=>
       obtain⟨e,n⟩:=x;refine aG.bnd Vg ?_;rintro R3 h3 p q ⟨rfl,rfl⟩;simp only[P.cells_g,P.depth_g,P.cellAtBytes_g];split
       .exact aG.ret ⟨_,_,rfl,rfl,.some (.mk (h3.le _ _ (h2.le _ _ (h1.le _ _ hr))))⟩
       .exact .inl lS
 |_=>exact .inl bQ
theorem zdr (ts:Array aN)(t:aN)(hx:VR S K R x x')(hy:VR S K R y y'):aG P S K (VA S K) (Oq ts t #[x,y]) R (Oq ts t #[x',y']):=
 (zpD ts t hx hy).mono λR' _ a b h=>by
  obtain⟨p,p',rfl,rfl,h⟩:=h;exact .pointer h
variable {a':bC}
theorem zBp {a:bC}(h:fO R a a')(l:Bool):aG P S K (VA S K) (asNumber a l) R (asNumber a' l):=by
 unfold asNumber;refine aG.bnd (zgp (.number h)) ?_;rintro R1 h1 n n' hn;exact aG.ret (.pointer (.some (.mk hn)))
theorem zy7 {a:bC}(h:fO R a a'):aG P S K (λR x y=>fO R x.1 y.1/\x.2=y.2) (behindNumber a) R (behindNumber a'):=by
 have h0:=h
 cases h with
 |mk h=>
  unfold behindNumber;refine aG.bnd (ziE h) ?_;rintro R1 h1 x y (⟨rfl,rfl⟩|⟨p,p',l,rfl,rfl,hp⟩)
  .exact aG.ret ⟨h0.mono h1.le,rfl⟩
  .exact aG.ret ⟨hp,rfl⟩
theorem zi1 (t:aN)(hx:VR S K R x x')(hy:VR S K R y y'):aG P S K (VA S K) (movedNumber t x y) R (movedNumber t x' y'):=by
 unfold movedNumber;refine aG.bnd (nC t) ?_;rintro R1 h1 d _ ⟨rfl,_⟩
 have k:aG P S K (VA S K) (do
  let .pointer (some n):=x|Oq #[] t #[x,y]
  let(a,lost)<-behindNumber n
  match<-Oq #[] t #[.pointer (some a),y] with
  | .pointer (some b)=>asNumber b lost
  |v=>pure v) R1 (do
  let .pointer (some n):=x'|Oq #[] t #[x',y']
  let(a,lost)<-behindNumber n
  match<-Oq #[] t #[.pointer (some a),y'] with
  | .pointer (some b)=>asNumber b lost
  |v=>pure v):=by
  have Oh:=hx.mono h1.le;have zmZ:=hy.mono h1.le
  cases hx with
  |pointer hp=>
   cases hp with
   |none=>exact zdr _ _ Oh zmZ
   |some ha=>
    refine aG.bnd (zy7 (ha.mono h1.le)) ?_;rintro R2 h2 ⟨a,l⟩ ⟨a',l'⟩ ⟨h3,h4⟩;simp only at h3 h4;subst h4;refine aG.bnd (zpD _ _ (.pointer (.some h3)) (zmZ.mono h2.le)) ?_;rintro R3 h5 v v' ⟨p,p',rfl,rfl,hb⟩
    cases hb with
    |none=>exact aG.ret (.pointer .none)
    |some hb=>exact zBp hb _
  |junk _=>exact .inl bQ
  |_=>exact zdr _ _ Oh zmZ
 cases d<;>first|exact k|exact .inl lS|exact .inl (eY.bnd lS _)
theorem zG8 (t:aN)(hx:VR S K R x x')(hy:VR S K R y y'):aG P S K (VA S K) (movedPointer t x y) R (movedPointer t x' y'):=by
 unfold movedPointer;have tM:=hx
 cases hx with
 |pointer hp=>
  cases hp with
  |none=>exact zdr _ _ tM hy
  |some ha=>
   have O1:=ha
   cases ha with
   |mk hr=>
    refine aG.bnd (ziE hr) ?_;rintro R1 h1 x y (⟨rfl,rfl⟩|⟨p,p',l,rfl,rfl,hp⟩)
    .exact zdr #[] t (tM.mono h1.le) (hy.mono h1.le)
    .exact .inl lS
 |_=>exact zdr _ _ tM hy
end
section
variable {P:dM}{S:aO->Prop}{K:Pr}{R:Pr}
variable {a a' b b':bC}
theorem zwp (hR:uM P K R)(ha:fO R a a')(hb:fO R b b'):aG P S K mE (zj2 a b) R (zj2 a' b'):=by
 unfold zj2;refine aG.bnd zkx ?_;rintro R1 _ p q ⟨rfl,rfl,rfl⟩;have e1:=fO.block_eq hR ha hb;have e2:=fO.low hR ha;have e3:decide (a.block>=P.globals.size)=decide (a'.block>=P.globals.size):=by
  have:=decide_eq_decide.1 e2;exact decide_eq_decide.2 aC
 have hc:(a.block !=b.block||decide (a.block>=P.g.globals.size))=(a'.block !=b'.block||decide (a'.block>=P.c.globals.size)):=by
  rw[P.globals_g];show(!(a.block==b.block)||_)=(!(a'.block==b'.block)||_);rw[e1];congr 1
 by_cases h:(a.block !=b.block||decide (a.block>=P.g.globals.size))=true
 .simp only[if_pos h]
  exact .inl (eY.bnd lS _)
 .have h':¬(a'.block !=b'.block||decide (a'.block>=P.c.globals.size))=true:=by rw[<-hc];exact h
  simp only[if_neg h,if_neg h'];refine aG.bnd (Ud ha) ?_;rintro R4 h4 m _ rfl;refine aG.bnd (Ud (hb.mono h4.le)) ?_;rintro R5 h5 m' _ rfl;exact aG.ret rfl
theorem zAG (hR:uM P K R)(k:Cn)(ha:fO R a a')(hb:fO R b b'):aG P S K (VA S K) (zjx k a b) R (zjx k a' b'):=by
 unfold zjx;refine aG.bnd (zwp hR ha hb) ?_;rintro R1 _ ⟨x,y⟩ _ rfl;exact aG.ret (.int _ _)
theorem zC8 (hR:uM P K R)(op:Ob)(ha:fO R a a')(hb:fO R b b'):aG P S K (VA S K) (zkF op a b) R (zkF op a' b'):=by
 unfold zkF;refine aG.bnd (zwp hR ha hb) ?_;rintro R1 _ ⟨x,y⟩ _ rfl;cases op<;>first|exact aG.ret (.bool _)|exact .inl lS
theorem zoI (k:Cn)(ha:fO R a a')(n:Int):aG P S K (VA S K) (zjS k a n) R (zjS k a' n):=by
 unfold zjS;have O1:=ha
 cases ha with
 |mk hr=>
  refine aG.bnd (zaR hr) ?_;rintro R1 h1 x _ rfl
  cases x with
  |none=>exact .inl lS
  |some x=>
   obtain⟨e,c⟩:=x;refine aG.bnd (Fu e) ?_;rintro R2 h2 i _ ⟨rfl,_⟩;simp only;split
   .exact .inl (eY.bnd lS _)
   .refine aG.bnd (Ud (O1.mono (h1.trans h2).le)) ?_
    rintro R3 h3 m _ rfl;exact aG.ret (.int _ _)
theorem zEQ (op:Ob)(t:aN){x y:aF}(ho:op≠ .eql/\op≠ .neq)(hx:∀k n,x≠ .int k n)(hs:∀s,x≠ .string s)(hp:∀a,x≠ .pointer a)(hf:∀k n,x≠ .float k n)(hc:∀k n m,x≠ .complex k n m):eY P (binOp op t x y):=by
 unfold binOp;split<;>first|exact bQ|exact lS|(exfalso;first|exact hx _ _ rfl|exact hs _ rfl|exact hp _ rfl|exact hf _ _ rfl|exact hc _ _ _ rfl|exact ho.1 rfl|exact ho.2 rfl)
theorem zHq (op:Ob)(t:aN)(ho:op≠ .eql/\op≠ .neq)(hR:uM P K R){x x' y y':aF}(hx:VR S K R x x')(hy:VR S K R y y'):
 aG P S K (VA S K) (binOp op t x y) R (binOp op t x' y'):=by
 have tM:=hx;have zc4:=hy
 cases hx with
 |int k a=>
  cases hy with
  |int k' b=>
   by_cases hk:k=k'
   .subst hk
    cases op<;>simp only[binOp,ne_eq,not_true_eq_false,if_false]<;>first|exact zyc _ _ _ _|exact zIM _ _ _ _|exact zxp _ _ _ _|exact zvw _ _ _ _ _|exact zjO _ _ _
   .cases op<;>simp only[binOp,ne_eq,hk,not_false_eq_true,if_true]<;>first|exact zvw _ _ _ _ _|exact .inl bQ
  |pointer hp=>
   cases op<;>first|exact absurd rfl ho.1|exact absurd rfl ho.2|exact zi1 t zc4 tM|skip
   all_goals(cases hp<;>first|exact .inl lS|skip)
   rename_i hb;refine aG.bnd (zsU hb) ?_;intro R1 h1 u v zjP;exact zoI _ zjP _
  |_=>cases op<;>first|exact absurd rfl ho.1|exact absurd rfl ho.2|exact .inl bQ
 |string a=>
  cases hy with
  |string b=>cases op<;>simp only[binOp]<;>exact zm8 _ _ _
  |pointer hp=>cases op<;>first|exact absurd rfl ho.1|exact absurd rfl ho.2|exact .inl lS
  |_=>cases op<;>first|exact absurd rfl ho.1|exact absurd rfl ho.2|exact .inl bQ
 |pointer hp=>
  cases hy with
  |int k n=>
   have e:∀m,VR S K R (.int k m) (.int k m):=λm=>.int k m;cases op<;>first|exact absurd rfl ho.1|exact absurd rfl ho.2|exact zi1 t tM (e _)|skip
   all_goals first|(cases hp<;>first|exact .inl lS|(rename_i hb;refine aG.bnd (zsU hb) ?_;intro R1 h1 u v zjP;exact zoI _ zjP _))|skip
   all_goals
    simp only[binOp];refine aG.bnd (nC t) ?_;rintro R1 h1 d _ ⟨rfl,_⟩;cases d<;>first|exact zG8 t (tM.mono h1.le) (zc4.mono h1.le)|exact zi1 t (tM.mono h1.le) (zc4.mono h1.le)
  |pointer hq=>
   cases hp with
   |none=>cases hq<;>cases op<;>first|exact absurd rfl ho.1|exact absurd rfl ho.2|exact .inl lS
   |some ha=>
    cases hq with
    |none=>cases op<;>first|exact absurd rfl ho.1|exact absurd rfl ho.2|exact .inl lS
    |some hb=>
     have two:∀{F F':bC->bC->dA aF},(∀u u' v v',fO R u u'->fO R v v'->aG P S K (VA S K) (F u v) R (F' u' v'))->∀{a1 zm5 a2 zkd},fO R a1 zm5->fO R a2 zkd->
      aG P S K (VA S K) (do F (<-behindNumber a1).1 (<-behindNumber a2).1) R (do F' (<-behindNumber zm5).1 (<-behindNumber zkd).1):=by
      intro F F' hF a1 zm5 a2 zkd h1 h2;refine aG.bnd (zha h1) ?_;rintro R1 _ u u' ⟨rfl,hu⟩;refine aG.bnd (zha h2) ?_;rintro R2 _ v v' ⟨rfl,hv⟩;exact hF _ _ _ _ hu hv
     cases op<;>first|exact absurd rfl ho.1|exact absurd rfl ho.2|exact .inl lS|exact two (λu u' v v' h1 h2=>zAG hR _ h1 h2) ha hb|exact two (λu u' v v' h1 h2=>zC8 hR _ h1 h2) ha hb
  |_=>cases op<;>first|exact absurd rfl ho.1|exact absurd rfl ho.2|exact .inl lS|(cases hp<;>exact .inl lS)
 |_=>exact .inl (zEQ op t ho aQ aQ aQ aQ aQ)
end
def Ends {α:Type}(r:Result α):Prop:=(∃x w',r=.ok x w')\/∃h w',r=.halt h w'/\Z8 h
def Ends.halt {h:Halt}(ht:Z8 h):Ends (.halt h w:Result α):=.inr ⟨h,w,rfl,ht⟩
theorem aG.tame {A:Pr->α->β->Prop}{G:Gp}(hG:G=P.gp)(s:dA α):
 ∀{R:Pr} {w W:aE} {s':dA β},aG P S K A s R s'->dB S K R G St w W->Tp w W->Ends (s.run P.g w):=by
 induction s with
 |pure a=>
  rintro R w W s' (hn|⟨b,rfl,h⟩) hw ht
  .exact .inr (hn _ hw.np)
  exact .inl ⟨a,w,rfl⟩
 |load m a k ih=>
  rintro R w W s' (hn|⟨rfl,a',k',rfl,ha,hk⟩) hw ht
  .exact .inr (hn _ hw.np)
  obtain⟨qV⟩:=ha;rename_i b b' o sp;obtain⟨ob,Dm,h1,h2,h3⟩:=hw.cont b b' qV
  cases h3 with
  |cells hc hz=>
   rename_i c c' T fz J7
   cases sp with
   |some sp=>simp only[bK,lU,h1,zM,rK];exact .halt trivial
   |none=>
    cases hv:c[o]? with
    |none=>simp only[bK,lU,h1,zM,rK,hv];exact .halt trivial
    |some v=>
     obtain⟨v',Me,wI⟩:=hc.get hv;have e1:w.cell? ⟨b,o,none⟩=some v:=by simp[lU,h1,hv]
     rw[bK,e1];exact ih v (hk v v' wI) hw ht
  |_=>simp only[bK,lU,h1,zM,rK];exact .halt trivial
 |store m a v k ih=>
  rintro R w W s' (hn|⟨rfl,a',v',k',rfl,ha,hv,hk⟩) hw ht
  .exact .inr (hn _ hw.np)
  obtain⟨qV⟩:=ha;rename_i b b' o sp;by_cases Rj:∃cs,v=.agg cs
  .obtain⟨cs,rfl⟩:=Rj;rw[bK];exact .halt trivial
  by_cases Fw:∃cs,v=.tuple cs
  .obtain⟨cs,rfl⟩:=Fw;rw[bK];exact .halt trivial
  rw[bK]
  rotate_left
  .simp_all
  .simp_all
  obtain⟨ob,Dm,h1,h2,h3⟩:=hw.cont b b' qV
  cases h3 with
  |cells hc hz=>
   rename_i c c' T fz J7
   cases sp with
   |some sp=>simp only[lU,h1,Du,rK];exact .halt trivial
   |none=>
    cases gU:c[o]? with
    |none=>simp only[lU,h1,Du,rK,gU];exact .halt trivial
    |some v0=>
     have e1:w.cell? ⟨b,o,none⟩=some v0:=by simp[lU,h1,gU]
     rw[e1];simp only
     cases oH:w.frozen? ⟨b,o,none⟩ with
     |true=>exact .halt trivial
     |false=>
      simp only[jG,if_false];have Vo:¬Lf fz o:=by
       intro⟨z1,z2⟩;simp[Jt,h1,z1,z2] at oH
      have Ap:¬St b:=by
       intro hs;obtain⟨_,c2,T2,hi,g1,g2⟩:=hw.st b hs;rw[h1] at g1;injection g1 with g1;injection g1 with g1 _ g3;subst g1 g3;exact Vo ⟨mK _,j5 (dR.1 gU).1 g2⟩
      rw[Xp h1];have st:=nQ.upd hw qV Ap (o7.cells (T:=T) (hc.set o hv) hz);exact ih hk st.rel (ht.step st)
  |_=>simp only[lU,h1,Du,rK];exact .halt trivial
 |new o k ih=>
  rintro R w W s' (hn|⟨o',k',rfl,ho,hk⟩) hw ht
  .exact .inr (hn _ hw.np)
  rw[bK];have st:=nQ.push hw ho;exact ih _ (hk _ _ ⟨λb hb=>absurd (hw.lt _ _ hb).1 (Jk _),λa ha=>absurd (hw.lt _ _ ha).2 (Jk _),by subst hG;exact hw.gle⟩) st.rel (ht.step st)
 |shape r k ih=>
  rintro R w W s' (hn|⟨r',k',rfl,tV,hk⟩) hw ht
  .exact .inr (hn _ hw.np)
  rw[bK];exact ih _ (hk _) hw ht
 |freeze a n k ih=>
  rintro R w W s' (hn|h) hw ht
  .exact .inr (hn _ hw.np)
  .exact h.elim
 |frozen a k ih=>
  rintro R w W s' (hn|⟨r',k',rfl,hk⟩) hw ht
  .exact .inr (hn _ hw.np)
  rw[bK];exact ih _ (hk _ true) hw ht
 |getObj r k ih=>
  rintro R w W s' (hn|⟨r',k',rfl,tV,hk⟩) hw ht
  .exact .inr (hn _ hw.np)
  rw[bK];rcases hw.orR tV with x|x
  .obtain⟨ob,Dm,h1,h2,h3⟩:=hw.cont r r' x
   rw[h1];have go:Ends ((k ob).run P.g w):=ih ob (hk _ _ h3) hw ht;cases h3<;>first|exact go|exact .halt trivial
  .rw[x];exact .halt trivial
 |setObj r o k ih=>
  rintro R w W s' (hn|⟨r',o',k',rfl,tV,ho,hk⟩) hw ht
  .exact .inr (hn _ hw.np)
  rw[bK];rcases hw.orR tV with x|x
  .obtain⟨ob,Dm,h1,h2,h3⟩:=hw.cont r r' x
   rw[h1];have go:(∀c T fz,ob≠ .cells c T fz)->Ends (k.run P.g {w with heap:=w.heap.setIfInBounds r o}):=λn1=>by
    have Ap:¬St r:=by
     intro hs;obtain⟨_,c2,T2,hi,g1,g2⟩:=hw.st r hs;rw[h1] at g1;injection g1 with g1;exact n1 _ _ _ g1
    have st:=nQ.upd hw x Ap ho;exact ih hk st.rel (ht.step st)
   cases h3<;>first|exact go aQ|exact .halt trivial
  .rw[x];exact .halt trivial
 |choose q k ih=>
  rintro R w W s' (hn|⟨k',rfl,hk⟩) hw ht
  .exact .inr (hn _ hw.np)
  rw[bK]
  cases hq:q.forced with
  |true=>
   simp only[if_true];exact ih 0 (hk 0) hw ht
  |false=>
   simp only[jG,if_false];have st:=nQ.draw hw;exact ih _ (hk _) st.rel (ht.step st)
 |sys c k ih=>
  rintro R w W s' (hn|h) hw ht
  .exact .inr (hn _ hw.np)
  .exact h.elim
 |program k ih=>
  rintro R w W s' (hn|⟨k',rfl,hk⟩) hw ht
  .exact .inr (hn _ hw.np)
  rw[bK];exact ih _ hk hw ht
 |mark m k ih=>
  rintro R w W s' (hn|⟨rfl,k',rfl,hk⟩) hw ht
  .exact .inr (hn _ hw.np)
  rw[bK];exact ih hk hw ht
 |halt h=>
  rintro R w W s' (hn|hx) hw ht
  .exact .inr (hn _ hw.np)
  .exact hx.elim
end Go.Tt
