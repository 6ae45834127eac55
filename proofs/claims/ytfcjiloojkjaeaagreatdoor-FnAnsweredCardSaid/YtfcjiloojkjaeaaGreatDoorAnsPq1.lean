/-
  Part 1 of what stands behind the last text.
-/
import Derived.Test.YtfcjiloojkjaeaaGreatDoorRows
import Derived.Lib.SmallJoins
import Derived.WalkSpells
import Derived.WalkLawsBesides
import Derived.BigQuiet
import Derived.Deep.OwnRows
import Derived.Deep.AppendLies
import Derived.Deep.AppendSrc
import Derived.Deep.RegionLaw
import Derived.Lib.ItoaLen
import Derived.Deep.Matrix
import Derived.Deep.RegionHeld3
import Derived.Deep.CutRange
import Derived.Conc.Own
set_option linter.all false
open Array renaming foldl_toList→zqV,getD_eq_getD_getElem?→x4,getElem?_eq_getElem→qI,getElem?_eq_none_iff→zqt,getElem?_eq_some_iff→eM,getElem?_map→Dw,getElem?_modify→zuD,getElem?_push→zlf,getElem?_push_lt→zrW,getElem?_setIfInBounds_ne→tY,range→N1
open BitVec renaming ofInt→zlS
open Bool renaming eq_iff_iff→Q7,false_eq_true→iA
open Go renaming Addr→bC,BinOp→Ny,BoundsCode→zmJ,Calls→gT,Ending→Ig,FuncId→aP,IntKind→Dr,MapEntry→pF,Obj→qN,Oper→aZ,Operand→cN,Program→cD,Sem→dA,TypeDesc→zci,TypeId→aM,TypeInfo→wG,Value→aF,World→aE,heap_alloc_new→gV,info_parts→C8,run_append_own_at→zwT,yielded→dL
open Go.Addr renaming add→zfA
open Go.Builtin renaming append_→xR,cap_→zjY,clear_→S8,copy_→Eg,delete_→Lh,firstCells→Un,holdsCells→zoa,lenOf→zqe,len_→zim,mayShare→zyj,unsafeAdd_→Nl,zeroCells→qK
open Go.Ending renaming returned→znO
open Go.Instr renaming alloc→zk2,box→zop,build→zin,buildSlice→zjP,checkKey→Ij,extract→zlr,fieldAt→zod,fill→Nn,findAsking→Mm,findKey→My,findNow→Hl,index→zlZ,indexAt→zl0,keyThatStays→Qk,loadAt→zoi,lookup→Ar,makeChan→zkr,makeInterface→zlj,makeMap→zid,makeSlice→zkF,mapUpdate→He,sameBits→zc5,sameNow→xE,slice→Wo,sliceAt→Yx,sliceBound→L0,sliceBounds→Y8,storeAt→ziO,sureAddr→ztg
open Go.Lib renaming decDigits→zak,itoa→Ly
open Go.Op renaming addrCmp→zie,addrMod→zmc,addrSub→zkS,equal→Bi,equalIn→Fg,intArith→zuk,intBits→zsk,intDiv→zm7,shift→zio,stringOp→zmk,twoPlaces→zkW
open Go.Oper renaming wp→C5
open Go.Proofs.Tryz renaming func48→zrY,func62→zhO,ntmps48→zwZ,ntmps62→zg5,prog→aK,underlying57→M5
open Go.Region renaming wanted→dI
open Go.Result renaming andThen_ok→Gx
open Go.RowKit renaming Below→cH
open Go.RowKit.Below renaming heap_alloc→qA,heap_setCell→dX,refl→gD
open Go.Sem renaming events→yA,run→bN,runT→Bt,run_bind→G3,run_bind'→vD,run_pure→Kl
open Go.Value renaming cells→Vz,okWide→ztf,oneCell'→zuO,ownBlock→Gb,tuple→Wj
open Go.World renaming cell?→lW,cell?_alloc_lt→ztR,cell?_of_block→Bs,farLoad→zX,farStore→Eu,frozen?→I8,news_of_block→Ez,noCell→r8,setCell→zdp,shape?→zb9,size_setCell→xG
open Int renaming emod_lt_of_pos→zmt,emod_nonneg→zix,eq_ofNat_of_zero_le→zuX
open List renaming cons_append→U8,ext_getElem?→zjM,filter_append→Qt,filter_cons→zwQ,flatMap_cons→znh,getElem?_eq_getElem→oQ,getElem?_eq_some_iff→lX,getElem?_modify→Iz,length_append→j5,length_cons→uV,length_drop→zC,length_filter_le→zdA,length_modify→Nv,length_take→rU,map_cons→jO,map_nil→uN,map_toArray→uP,mem_iff_getElem→Mz,nil_append→zd4,take_add_one→De,take_of_length_le→El
open Nat renaming add_assoc→zcR,le_refl→bM,le_trans→eE,lt_irrefl→J9,lt_of_le_of_lt→zcJ,lt_of_lt_of_le→jP,lt_succ_self→y4,mod_lt→zyz,zero_add→qV,zero_le→lU
open Option.some renaming injEq→jQ
open Pure renaming pure→mF
open UInt8 renaming ofNat→zbb
structure rJ (P:Prop):Prop where
 o:P
def aD {P:Prop}(h:P):rJ P:=⟨h⟩
set_option maxHeartbeats 16000000
set_option maxRecDepth 100000
def zzO (X:Array aZ)(i:Nat):Go.Oper:=X.getD i ⟨none,.nilCheck (.tmp 0),0,"",#[],none⟩
abbrev aV (X:Array aZ)(i:Nat)(d:Option Go.Tmp)(o:Go.Op)(g:Option (Nat×Bool):=none):Go.Oper:=⟨d,o,(zzO X i).type,(zzO X i).pos,(zzO X i).after,g⟩
namespace Go
theorem aC{P:Prop}(h:P:=by omega):P:=h
theorem aH{P:Prop}(h:P:=by decide):P:=h
theorem aU{P:Prop}(h:P:=by kernel_rfl):P:=h
theorem aQ{P:Prop}(h:P:=by simp):P:=h
theorem Rp{P:Prop}(h:P:=by intro u hu;simp[bH.cells] at hu;rcases hu with rfl|rfl<;>rfl):P:=h
theorem pD{P:Prop}(h:P:=by simp;omega):P:=h
theorem Lz{P:Prop}(h:P:=by intro u hu;simp at hu;subst hu;rfl):P:=h
theorem nE{P:Prop}(h:P:=by go_num):P:=h
theorem uB{P:Prop}(h:P:=by simp_all):P:=h
theorem tV{P:Prop}(h:P:=by grind):P:=h
theorem Ho{P:Prop}(h:P:=by simp[Gb];omega):P:=h
theorem zpS{P:Prop}(h:P:=by intro k hk aS;have cZ:k=0\/k=1\/k=2\/k=3\/k=4\/k=6:=(by omega);rcases cZ with rfl|rfl|rfl|rfl|rfl|rfl<;>rfl):P:=h
theorem zwI{P:Prop}(h:P:=by intro k hk aS;have cZ:k=0\/k=1\/k=2\/k=3\/k=4\/k=5:=(by omega);rcases cZ with rfl|rfl|rfl|rfl|rfl|rfl<;>rfl):P:=h
theorem L4{P:Prop}(h:P:=by simp only;omega):P:=h
theorem zfi{P:Prop}(h:P:=by rw[hl.o];exact bM _):P:=h
theorem zeC{P:Prop}(h:P:=by first|(simp;done)|(simp;omega)):P:=h
theorem zag{P:Prop}(h:P:=by simpa using h1):P:=h
theorem Zw{P:Prop}(h:P:=by simpa using h2):P:=h
theorem zwR{P:Prop}(h:P:=by unfold uL;rw[zla HC.o (by rw[hl.o];exact bM _)];rfl):P:=h
theorem Oj{P:Prop}(h:P:=by rw[bN]):P:=h
theorem Zt{P:Prop}(h:P:=by rw[fA];simp):P:=h
theorem zcP{P:Prop}(h:P:=by simpa using hb):P:=h
theorem zgk{P:Prop}(h:P:=by have:=t.size;omega):P:=h
theorem zcB{P:Prop}(h:P:=by simpa using h):P:=h
theorem zxq{P:Prop}(h:P:=by first|(simp[Gb];done)|(simp[Gb];omega)):P:=h
theorem zgn{P:Prop}(h:P:=by simpa using zrS.o):P:=h
theorem zk9{P:Prop}(h:P:=by first|exact jT|exact bR):P:=h
theorem zmi{P:Prop}(h:P:=by first|exact bR|exact jT):P:=h
theorem zhg{P:Prop}(h:P:=by simp;exact aS):P:=h
theorem zvY{P:Prop}(h:P:=by simpa using hF 0 _ rfl hf.1 hf.2):P:=h
theorem zf2{P:Prop}(h:P:=by assumption):P:=h
end Go
namespace Go
def aN{α:Sort _}(a:α):∃y,y=a:=⟨_,rfl⟩
def zrE{p:Nat->Prop}(k:∀i,p i):p 0/\p 1/\p 2:=⟨k 0,k 1,k 2⟩
def eT{p:Nat->Prop}(k:∀i,p i):p 0/\p 1/\p 2/\p 3/\p 4/\p 5/\p 6/\p 7:=⟨k 0,k 1,k 2,k 3,k 4,k 5,k 6,k 7⟩
end Go
namespace Go.Proofs.YtfcjiloojkjaeaaGreatDoor
open Go.Joins Go.ChangeShapes Go.WideShapes Go.RowKit Go.Deep
def own:ownKnob aK.godebug=none:=aU
def zsn:laidOutB aK=true:=aU
end Go.Proofs.YtfcjiloojkjaeaaGreatDoor
namespace Go.Proofs.YtfcjiloojkjaeaaGreatDoor
open Go.RowKit
def inB (n lo hi:Int):Bool:=decide (lo<=n/\n<=hi)
theorem Lt {a b:Bool}(h:a=b):znO (.bool a)=.returned (.bool b):=by rw[h]
theorem Hx {k:Dr}{a b:Int}(h:a=b):znO (.int k a)=.returned (.int k b):=by rw[h]
variable {W:aE}{N:Nat}{o:qN}
theorem gM (hN:W.heap[N]? =some o):N<W.heap.size:=by grind
variable {w1:aE}
def mU (hb:cH W.heap.size W w1)(hN:W.heap[N]? =some o):w1.heap[N]? =some o/\N<w1.heap.size:=
 ⟨(hb.block N (gM hN)).trans hN,jP (gM hN) hb.size⟩
def dH (hN:W.heap[N]? =some o)(o':qN):(W.alloc o').heap[N]? =some o:=(qA W o' N (gM hN)).trans hN
variable {w:aE}
def zql (h:cH w.heap.size w W)(hb:cH W.heap.size W w1):cH w.heap.size w w1:=h.trans (hb.mono h.size)
def eK (h:cH w.heap.size w W)(o:qN):cH w.heap.size w (W.alloc o):=h.alloc h.size o
variable {cs:Array aF}{T:aM}{fz:Nat×Nat}
def aI (h:w.heap[N]? =some (.cells cs T fz))(o:Nat):w.cell? ⟨N,o,none⟩=cs[o]? :=cell_of_row w N o cs T fz h
theorem zsp (n lo hi:Int)(w:aE):
 gT aK 49 #[.int .i64 n,.int .i64 lo,.int .i64 hi] w λe w'=>e=.returned (.bool (inB n lo hi))/\w'=w:=by
 go_enter Tryz.func49,Tryz.ntmps49
 go_wp2
 all_goals go_ret
 all_goals exact⟨Lt (by simp[inB];omega),rfl⟩
structure cJ (w:aE)(lo hi s:Nat)(A:Option bC)(n c:Nat)(xs:List aF):Prop where
 len:xs.length=n*s
 le:n<=c
 cap:c<=maxLen
 at_:0<n->∃b off,A=some ⟨b,off,none⟩/\lo<=b/\b<hi/\b<w.heap.size/\∀j v,xs[j]? =some v->w.cell? ⟨b,off+j,none⟩=some v
variable {w':aE}{lo hi s n c:Nat}{A:Option bC}{xs:List aF}
theorem cJ.keep (h:cJ w lo hi s A n c xs)(hs:w.heap.size<=w'.heap.size)(k:∀b,lo<=b->b<hi->b<w.heap.size->w'.heap[b]? =w.heap[b]?):cJ w' lo hi s A n c xs:=
 ⟨h.len,h.le,h.cap,λhn=>by
  obtain⟨b,off,e,h1,h2,h3,h4⟩:=h.at_ hn;exact⟨b,off,e,h1,h2,jP h3 hs,λj v hv=>(Bs (k b h1 h2 h3)).trans (h4 j v hv)⟩⟩
def cJ.below (h:cJ w lo hi s A n c xs)(hb:cH w.heap.size w w'):cJ w' lo hi s A n c xs:=
 h.keep hb.size λb _ _ h3=>hb.block b h3
def cJ.alloc (h:cJ w lo hi s A n c xs)(o:qN):cJ (w.alloc o) lo hi s A n c xs:=
 h.keep aQ λb _ _ h3=>qA w o b h3
theorem cJ.wide {xY lS:Nat}(h:cJ w lo hi s A n c xs)(h1:xY<=lo)(h2:hi<=lS):cJ w xY lS s A n c xs:=
 ⟨h.len,h.le,h.cap,λhn=>by obtain⟨b,off,e,k1,k2,k3,k4⟩:=h.at_ hn;exact⟨b,off,e,aC,aC,k3,k4⟩⟩
def fN (xs:List Int):List Value:=xs.map (aF.int .i64)
variable {k:Nat}{xs:List Int}
theorem zHr (h:k<xs.length):(fN xs)[k]? =some (.int .i64 xs[k]):=by simp[fN,h]
theorem cJ.cellAt (h:cJ w lo hi 1 A n c (fN xs))(hk:k<n):∃b off v,A=some ⟨b,off,none⟩/\lo<=b/\b<hi/\b<w.heap.size/\xs[k]? =some v/\w.cell? ⟨b,off+k,none⟩=some (.int .i64 v):=by
 obtain⟨b,off,e,h1,h2,h3,h4⟩:=h.at_ aC;have hl:k<xs.length:=by have:=h.len;simp[fN] at this;omega
 exact⟨b,off,xs[k],e,h1,h2,h3,oQ hl,h4 k _ (zHr hl)⟩
theorem cJ.length (h:cJ w lo hi 1 A n c (fN xs)):xs.length=n:=by have:=h.len;simp[fN] at this;exact this
def zE0:(aK.info? 3).map (λi=>(i.zero,i.size,i.bytes))=some (some (.int .i64 0),1,8):=aU
theorem fC (h:w.heap[N]? =some (.cells cs T))(o:Nat):w.frozen? ⟨N,o,none⟩=false:=by simp[I8,h]
theorem oK {g i:Nat}(h:w.heap[g]? =some (.cells cs T fz))(v:aF):(w.setCell ⟨g,i,none⟩ v).heap[g]? =some (.cells (cs.setIfInBounds i v) T fz):=by
 simp[zdp,zuD,h]
variable {ys:List Int}
theorem zzj {u v:Int}(h1:xs[k]? =some u)(h2:ys[k]? =some v)(aS:¬u=v):(xs==ys)=false:=by grind
theorem zEF (hl:xs.length=ys.length)(h:∀j:Nat,j<xs.length->xs[j]? =ys[j]?):(xs==ys)=true:=by
 rw[beq_iff_eq];apply zjM;grind
def SaysB (w:aE)(t:Bool)(e:Ig)(w':aE):Prop:=e=.returned (.bool t)/\∃m,w'=w.drewN m
structure Chg (lo hi:Nat)(w w':aE):Prop where
 os:w'.os=w.os
 tape:w'.tape=w.tape
 output:w'.output=w.output
 size:w.heap.size<=w'.heap.size
 block:∀i,i<w.heap.size->¬(lo<=i/\i<hi)->w'.heap[i]? =w.heap[i]?
def Chg.refl (lo hi:Nat)(w:aE):Chg lo hi w w:=⟨rfl,rfl,rfl,bM _,λ_ _ _=>rfl⟩
theorem Chg.setCell {a b:aE}(h:Chg lo hi a b){p:bC}(h1:lo<=p.block)(h2:p.block<hi)(v:aF):Chg lo hi a (b.setCell p v):=
 ⟨h.os,h.tape,h.output,by simpa[zdp] using h.size,λi hi aS=>(dX b p v i aC).trans (h.block i hi aS)⟩
structure Own (w:aE)(lo hi:Nat)(A:Option bC)(n c:Nat)(xs:List Int):Prop where
 slc:cJ w lo hi 1 A n c (fN xs)
 blk:0<n->∃b cs,A=some ⟨b,0,none⟩/\w.heap[b]? =some (.cells cs 3)/\n<=cs.size
structure Bq (E s:Nat)(w:aE)(lo hi:Nat)(A:Option bC)(n c:Nat)(xs:List aF):Prop where
 slc:cJ w lo hi s A n c xs
 blk:0<n->∃b cs,A=some ⟨b,0,none⟩/\w.heap[b]? =some (.cells cs E)/\n*s<=cs.size
section
variable {E s:Nat}{w w':aE}{lo hi n c:Nat}{A:Option bC}{xs:List aF}
theorem Bq.keep (h:Bq E s w lo hi A n c xs)(hs:w.heap.size<=w'.heap.size)(k:∀b,lo<=b->b<hi->b<w.heap.size->w'.heap[b]? =w.heap[b]?):Bq E s w' lo hi A n c xs:=
 ⟨h.slc.keep hs k,λhn=>by
  obtain⟨b,cs,e,hb,hc⟩:=h.blk hn;obtain⟨b',off,e',h1,h2,h3,_⟩:=h.slc.at_ hn;rw[e] at e';injection e' with e';injection e' with e1 e2 e3;subst e1;exact⟨b,cs,e,(k b h1 h2 h3).trans hb,hc⟩⟩
def Bq.wide {xY lS:Nat}(h:Bq E s w lo hi A n c xs)(h1:xY<=lo)(h2:hi<=lS):Bq E s w xY lS A n c xs:=⟨h.slc.wide h1 h2,h.blk⟩
theorem zhh {base:Nat}{v:aF}(h:w.ownsRow base E s v n xs)(hs:0<s):∃A c,v=.slice A n c/\Bq E s w base w.heap.size A n c xs:=by
 obtain⟨hl,h|⟨g,cap,cur,rfl,hb,hg,hn,hc,cP,ht⟩⟩:=h
 .obtain⟨rfl,rfl⟩:=h
  exact⟨none,0,rfl,⟨⟨hl,bM _,lU _,λh=>absurd h aC⟩,λh=>absurd h aC⟩⟩
 .refine⟨_,cap,rfl,⟨⟨hl,hn,hc,λh0=>⟨g,0,rfl,hb,gM hg,gM hg,λj v hv=>?_⟩⟩,λh0=>⟨g,cur,rfl,hg,by grind⟩⟩⟩
  rw[qV,aI hg]
  grind
theorem cJ.cells (h:cJ w lo hi s A n c xs){k:Nat}(hk:k<n):∃b off,A=some ⟨b,off,none⟩/\lo<=b/\b<hi/\b<w.heap.size/\∀f v,xs[k*s+f]? =some v->w.cell? ⟨b,off+(k*s+f),none⟩=some v:=by
 obtain⟨b,off,e,h1,h2,h3,h4⟩:=h.at_ aC;exact⟨b,off,e,h1,h2,h3,λf v hv=>h4 _ v hv⟩
end
variable {α:Type}
theorem Ov (f:α->List aF)(hf:∀a,(f a).length=s):∀(l:List α) (k i:Nat),i<s->(l.flatMap f)[k*s+i]? =(l[k]?).bind λa=>(f a)[i]?
 |[],k,i,_=>by simp
 |a::l,0,i,hi=>by grind
 |a::l,k+1,i,hi=>by
  rw[znh,List.getElem?_append_right tV,hf,show(k+1)*s+i-s=k*s+i by grind,Ov f hf l k i hi];rfl
theorem J4 (f:α->List aF)(hf:∀a,(f a).length=s)(l:List α):(l.flatMap f).length=l.length*s:=by
 induction l with
 |nil=>simp
 |cons a l ih=>grind
variable {xs:List aF}{v:aF}{E:Nat}
theorem zsN {W':aE}{base n:Nat}{w0:aE}(h:w0.ownsRow base E s v n xs)(g:W.grownBy W' v.ownBlock)(hb:base<=W.heap.size):cH base W W':=
 ⟨g.os,g.tape,g.output,g.size,λi hi=>g.block i aC (by
  obtain⟨_,h|⟨b,cap,cur,rfl,h1,_⟩⟩:=h
  .rw[h.1];simp[Gb]
  .simp[Gb];omega)⟩
theorem zit {base n:Nat}(h:w.ownsRow base E s v n xs)(hv:¬v=.slice none 0 0):∃g c,v=.slice (some ⟨g,0,none⟩) n c:=by
 obtain⟨_,h|⟨b,cap,cur,rfl,h1,_⟩⟩:=h
 .exact absurd h.1 hv
 simp_all
def Md {base g:Nat}(hb:base<=g)(hg:w.heap[g]? =some (.cells #[] E)):w.ownsRow base E s (.slice (some ⟨g,0,none⟩) 0 0) 0 []:=
 ⟨aQ,.inr ⟨g,0,#[],rfl,hb,hg,bM _,lU _,aQ,aQ⟩⟩
theorem Bm {base n:Nat}(h:w.ownsRow base E s v n xs)(hb:∀b,b<w.heap.size->w'.heap[b]? =w.heap[b]?):w'.ownsRow base E s v n xs:=by
 obtain⟨hl,h|⟨g,cap,cur,rfl,h1,hg,h2⟩⟩:=h
 .exact⟨hl,.inl h⟩
 .exact⟨hl,.inr ⟨g,cap,cur,rfl,h1,(hb g (gM hg)).trans hg,h2⟩⟩
def zrG {base n:Nat}(h:w.ownsRow base E s v n xs)(hb:cH w.heap.size w w'):w'.ownsRow base E s v n xs:=Bm h λb h=>hb.block b h
def Ku (h:w.heap[N]? =some o):w.drew.heap[N]? =some o:=h
def zgi {a:aE}{B:Nat}(h:cH B a w):cH B a w.drew:=⟨h.os,h.tape,h.output,h.size,h.block⟩
theorem l6 (w:aE)(o:qN){b:Nat}(hb:b=w.heap.size):(w.alloc o).heap[b]? =some o:=by subst hb;exact gV w o
section
variable {P:cD}(w:aE)
theorem znX (t ty:aM)(base:Nat)(e:aM)(i:wG)(z:aF)(size bytes:Nat)(ht:P.underlying t=some (.slice e))(hi:P.info? e=some i)(hz:i.zero=some z)
 (yD:i.size=size) (uW:i.bytes=bytes) (hzs:z.cells.size=size) (cP:0<size)
 (v:aF) (n:Nat) (xs:List aF) (cY:w.ownsRow base e size v n xs) (hv:¬v=.slice none 0 0)
 (ad:bC) (m c:Nat) (news:List aF) (hl:news.length=m*size) (Gn:∀j u,news[j]? =some u->w.cell? (ad.add j)=some u) (h1:∀u∈news,u.oneCell'=true)
 (x9:n+m<=maxLen) (yE:(n+m)*bytes<=140737488355328) (sX:base<=w.heap.size):
 ∃g cap w',(xR #[t,t] ty #[v,.slice (some ad) m c]).run P w=.ok (.slice (some ⟨g,0,none⟩) (n+m) cap) w'/\
  w'.ownsRow base e size (.slice (some ⟨g,0,none⟩) (n+m) cap) (n+m) (xs++news)/\w.grownBy w' v.ownBlock/\cH base w w':=by
 obtain⟨v',w',hr,h2,h3,h4,h5⟩:=zwT (P:=P) w base t ty e i z size bytes ht hi hz yD uW hzs cP v n xs cY ad m c news hl Gn h1 x9 yE sX;obtain⟨g,cap,rfl⟩:=zit h2 (λh=>hv (h4.1 h).1);exact⟨g,cap,w',hr,h2,h3,zsN cY h3 sX⟩
variable {o:aZ}{a:Act}
theorem zsJ {K:Act->aE->Prop}{Q:Exit->Act->aE->Prop}(s x:cN)(t:aM)
 (ho:o.op=.call {callee:=.builtin .append,args:=#[s,x],argTypes:=#[t,t]})
 (base:Nat) (e:aM) (i:wG) (z:aF) (size bytes:Nat) (ht:P.underlying t=some (.slice e)) (hi:P.info? e=some i) (hz:i.zero=some z)
 (yD:i.size=size) (uW:i.bytes=bytes) (hzs:z.cells.size=size) (cP:0<size)
 (v:aF) (n:Nat) (xs:List aF) (hs:a.eval s=v) (cY:w.ownsRow base e size v n xs) (hv:¬v=.slice none 0 0)
 (ad:bC) (m c:Nat) (news:List aF) (hx:a.eval x=.slice (some ad) m c) (hl:news.length=m*size) (Gn:∀j u,news[j]? =some u->w.cell? (ad.add j)=some u) (h1:∀u∈news,u.oneCell'=true)
 (x9:n+m<=maxLen) (yE:(n+m)*bytes<=140737488355328) (sX:base<=w.heap.size)
 (h:∀g cap w',w'.ownsRow base e size (.slice (some ⟨g,0,none⟩) (n+m) cap) (n+m) (xs++news)->w.grownBy w' v.ownBlock->cH base w w'->K (a.put o.dst (.slice (some ⟨g,0,none⟩) (n+m) cap)) w'):o.wp P a w K Q:=by
 obtain⟨g,cap,w',hr,h2,h3,h4⟩:=znX (P:=P) w t o.type base e i z size bytes ht hi hz yD uW hzs cP v n xs cY hv ad m c news hl Gn h1 x9 yE sX;unfold C5 execOp;simp only[ho,resolve,invoke,builtin,G3,Kl,Gx,uP,jO,uN,hs,hx,hr];exact h g cap w' h2 h3 h4
variable {ops:Array aZ}
def zln {rest:List aZ}{Q:Exit->Act->aE->Prop}(Gf:o.guard=none)(s x:cN)(t:aM)
 (ho:o.op=.call {callee:=.builtin .append,args:=#[s,x],argTypes:=#[t,t]})
 (base:Nat) (e:aM) (i:wG) (z:aF) (size bytes:Nat) (ht:P.underlying t=some (.slice e)) (hi:P.info? e=some i) (hz:i.zero=some z)
 (yD:i.size=size) (uW:i.bytes=bytes) (hzs:z.cells.size=size) (cP:0<size)
 (v:aF) (n:Nat) (xs:List aF) (hs:a.eval s=v) (cY:w.ownsRow base e size v n xs) (hv:¬v=.slice none 0 0)
 (ad:bC) (m c:Nat) (news:List aF) (hx:a.eval x=.slice (some ad) m c) (hl:news.length=m*size) (Gn:∀j u,news[j]? =some u->w.cell? (ad.add j)=some u) (h1:∀u∈news,u.oneCell'=true)
 (x9:n+m<=maxLen) (yE:(n+m)*bytes<=140737488355328) (sX:base<=w.heap.size)
 (h:∀g cap w',w'.ownsRow base e size (.slice (some ⟨g,0,none⟩) (n+m) cap) (n+m) (xs++news)->w.grownBy w' v.ownBlock->cH base w w'->wpList P ops Q rest (a.put o.dst (.slice (some ⟨g,0,none⟩) (n+m) cap)) w'):wpList P ops Q (o::rest) a w:=
 wpList_plain Gf λ_ hK=>zsJ w s x t ho base e i z size bytes ht hi hz yD uW hzs cP v n xs hs cY hv ad m c news hx hl Gn h1 x9 yE sX λg cap w' h2 h3 h4=>hK _ _ (h g cap w' h2 h3 h4)
theorem zxm {K:Act->aE->Prop}{Q:Exit->Act->aE->Prop}{EE:Prop}(Gf:o.guard=none)(s x:cN)(t:aM)
 (ho:o.op=.call {callee:=.builtin .append,args:=#[s,x],argTypes:=#[t,t]})
 (base:Nat) (e:aM) (i:wG) (z:aF) (size bytes:Nat) (ht:P.underlying t=some (.slice e)) (hi:P.info? e=some i) (hz:i.zero=some z)
 (yD:i.size=size) (uW:i.bytes=bytes) (hzs:z.cells.size=size) (cP:0<size)
 (v:aF) (n:Nat) (xs:List aF) (hs:a.eval s=v) (cY:w.ownsRow base e size v n xs) (hv:¬v=.slice none 0 0)
 (ad:bC) (m c:Nat) (news:List aF) (hx:a.eval x=.slice (some ad) m c) (hl:news.length=m*size) (Gn:∀j u,news[j]? =some u->w.cell? (ad.add j)=some u) (h1:∀u∈news,u.oneCell'=true)
 (x9:n+m<=maxLen) (yE:(n+m)*bytes<=140737488355328) (sX:base<=w.heap.size)
 (h:∀g cap w',w'.ownsRow base e size (.slice (some ⟨g,0,none⟩) (n+m) cap) (n+m) (xs++news)->w.grownBy w' v.ownBlock->cH base w w'->K (a.put o.dst (.slice (some ⟨g,0,none⟩) (n+m) cap)) w'):
 if dI o (dL ops a.tmps)=true then C5 P o a w K Q else EE:=by
 have hw:dI o (dL ops a.tmps)=true:=by simp[dI,Gf]
 rw[if_pos hw];exact zsJ w s x t ho base e i z size bytes ht hi hz yD uW hzs cP v n xs hs cY hv ad m c news hx hl Gn h1 x9 yE sX h
end
theorem zyI (xs:List Int):∀u∈fN xs,u.oneCell'=true:=by
 intro u hu;obtain⟨x,_,rfl⟩:=List.mem_map.1 hu;rfl
theorem Av {base n c:Nat}(h:w.ownsRow base E s (.slice A n c) n xs)(hs:0<s):cJ w base w.heap.size s A n c xs:=by
 obtain⟨A',c',e,o⟩:=zhh h hs;injection e with e1 e2 e3;subst e1 e3;exact o.slc
theorem Oc (a b:Array UInt8):(⟨a⟩:ByteArray)++⟨b⟩=⟨a++b⟩:=by
 apply ByteArray.ext;simp_all
theorem Tb (hk:k<=100000000):(zak k).length<=20:=by
 rw[Lib.decDigits_length];exact Lib.nDigits_le20 k aC
theorem cv1 (w:aE)(x:Nat)(hx:x<=255):(convert 42 9 (.slice (some ⟨w.heap.size,0,none⟩) 1 1)).run aK (w.alloc (.cells #[.int .u8 (x:Int)] 5))=.ok (.string ⟨[zbb x].toArray⟩) (w.alloc (.cells #[.int .u8 (x:Int)] 5)):=
 run_convert_bytes_back (P:=aK) _ 42 9 5 ⟨w.heap.size,0,none⟩ 1 [zbb x] Tryz.underlying42 Tryz.underlying5 Tryz.underlying9 (λj hj=>by
  obtain rfl:j=0:=by simp at hj;omega
  simp[zfA];omega)
end Go.Proofs.YtfcjiloojkjaeaaGreatDoor
namespace Go.Proofs.YtfcjiloojkjaeaaGreatDoor
open Go.Joins Go.ChangeShapes Go.WideShapes Go.RowKit Go.Deep
section
variable {H:Type}{enc:aM×aF->H}{P:cD}{w:aE}{base:Nat}{held:Bool}
theorem add_plain (b off j:Nat):(bC.mk b off none).add j=⟨b,off+j,none⟩:=by unfold zfA;split<;>simp_all
end
end Go.Proofs.YtfcjiloojkjaeaaGreatDoor
namespace Go.Proofs.YtfcjiloojkjaeaaGreatDoor
open Go.RowKit
variable {w:aE}
theorem zbP (a:bC)(v:aF):w.grownBy (w.setCell a v) (some a.block):=
 ⟨rfl,rfl,rfl,by simp[zdp],λi hi aS=>dX w a v i (λe=>aS (by rw[e]))⟩
variable {a:aE}{row:Option Nat}
def zI8 (h:a.grownBy w row)(n:Nat):a.grownBy (w.drewN n) row:=⟨h.os,h.tape,h.output,h.size,h.block⟩
def zka {b c:aE}(h:a.grownBy b row)(k:b.grownBy c row):a.grownBy c row:=
 ⟨k.os.trans h.os,k.tape.trans h.tape,k.output.trans h.output,eE h.size k.size,λi hi aS=>(k.block i (jP hi h.size) aS).trans (h.block i hi aS)⟩
def zAX (h:cH a.heap.size a w)(row:Option Nat):a.grownBy w row:=⟨h.os,h.tape,h.output,h.size,λi hi _=>h.block i hi⟩
variable {g:Nat}
def zH1 {B:Nat}(h:a.grownBy w (some g))(hB:B<=g)(hg:B<=a.heap.size):cH B a w:=
 ⟨h.os,h.tape,h.output,h.size,λi hi=>h.block i (jP hi hg) pD⟩
structure zc3 (w:aE)(g:Nat)(A:Option bC)(n:Nat):Prop where
 le:n<=2000
 at_:0<n->∃b off,A=some ⟨b,off,none⟩/\b<g/\∀j,j<n->∃v:Int,w.cell? ⟨b,off+j,none⟩=some (.int .u8 v)/\0<=v/\v<=255
variable {w':aE}{n:Nat}{A:Option bC}
theorem zc3.keep (h:zc3 w g A n)(k:∀b,b<g->w'.heap[b]? =w.heap[b]?):zc3 w' g A n:=
 ⟨h.le,λhn=>by
  obtain⟨b,off,e,hb,hj⟩:=h.at_ hn;refine⟨b,off,e,hb,λj Sb=>?_⟩;obtain⟨v,hv,h0⟩:=hj j Sb;exact⟨v,(Bs (k b hb)).trans hv,h0⟩⟩
structure RdX (w:aE)(g:Nat)(A:Option bC)(n c p:Nat):Prop where
 blk:w.heap[g]? =some (.cells #[.slice A n c,.int .i64 (p:Int)] 105)
 bytes:zc3 w g A n
 lt:p<1000000000
def Pq (w:aE)(g:Nat)(A:Option bC)(n c p d:Nat)(K:Int->Prop)(e:Ig)(w':aE):Prop:=
 ∃r:Int,e=.returned (.int .i64 r)/\K r/\w'.heap[g]? =some (.cells #[.slice A n c,.int .i64 ((p+d:Nat):Int)] 105)/\w.grownBy w' (some g)
theorem zDb (g p n c:Nat)(A:Option bC)(m:Int)(w:aE)(h:RdX w g A n c p)(hm:m<1\/n=0):
 gT aK 62 #[.pointer (some ⟨g,0,none⟩),.int .i64 m] w (Pq w g A n c p 1 λr=>r=0):=by
 have hc:=aI h.blk;have hf:∀o,w.frozen? ⟨g,o,none⟩=false:=λo=>by simp[I8,h.blk]
 have hp:=h.lt;have hb:=h.blk;have hn:=h.bytes.le;have HB:=aD hb;clear h hb;by_cases zad:m<1
 .clear hm
  go_enter zhO,zg5
  go_wp2;go_ret;exact⟨0,rfl,rfl,(oK HB.o _).trans aQ,zbP _ _⟩
 .have zbH:n=0:=by rcases hm with h|h;exact absurd h zad;exact h
  subst zbH;clear hm
  go_enter zhO,zg5
  go_wp2;go_ret;exact⟨0,rfl,rfl,(oK HB.o _).trans aQ,zbP _ _⟩
theorem zAH (g p n c:Nat)(A:Option bC)(m:Int)(w:aE)(h:RdX w g A n c p)(hm:1<=m)(sG:m<=1000000)(Yk:p<n):
 gT aK 62 #[.pointer (some ⟨g,0,none⟩),.int .i64 m] w (Pq w g A n c p 1 λr=>0<=r/\r<m):=by
 have hc:=aI h.blk;have hf:∀o,w.frozen? ⟨g,o,none⟩=false:=λo=>by simp[I8,h.blk]
 have hp:=h.lt;have hb:=h.blk;have hn:=h.bytes.le;have HB:=aD hb;obtain⟨b,off,rfl,kK,hj⟩:=h.bytes.at_ aC;obtain⟨v,hv,v0,v1⟩:=hj p Yk;have zbH:((n:Int)==0)=false:=pD;have zeH:(m==0)=false:=pD;clear h hb hj
 go_enter zhO,zg5
 go_wp2;go_ret;exact⟨_,rfl,⟨zix _ aC,zmt _ aC⟩,(oK HB.o _).trans aQ,zbP _ _⟩
theorem zIG (x y:Int)(hx:0<=x)(Ak:x<9223372036854775808)(hy:0<=y)(zJP:y<9223372036854775808):0<=bits .xor .i64 x y:=by
 obtain⟨a,rfl⟩:=zuX hx;obtain⟨b,rfl⟩:=zuX hy;have ha:a<9223372036854775808:=aC;have hb:b<9223372036854775808:=aC;have e:∀z:Nat,z<9223372036854775808->(zlS 64 (z:Int)).toNat=z:=λz hz=>by grind
 have aT:a^^^b<2^63:=Nat.xor_lt_two_pow aC aC;show 0<=Dr.i64.wrap ((zlS 64 (a:Int)^^^zlS 64 (b:Int)).toNat:Int);rw[BitVec.toNat_xor,e a ha,e b hb,Dr.wrap_i64];omega
theorem zCL (g p n c:Nat)(A:Option bC)(m:Int)(w:aE)(h:RdX w g A n c p)(hm:1<=m)(sG:m<=1000000)(Yk:¬p<n)(h0:0<n):
 gT aK 62 #[.pointer (some ⟨g,0,none⟩),.int .i64 m] w (Pq w g A n c p 1 λr=>0<=r/\r<m):=by
 have hc:=aI h.blk;have hf:∀o,w.frozen? ⟨g,o,none⟩=false:=λo=>by simp[I8,h.blk]
 have hp:=h.lt;have hb:=h.blk;have hn:=h.bytes.le;have HB:=aD hb;obtain⟨b,off,rfl,kK,hj⟩:=h.bytes.at_ h0;have zew:(0:Int)<n:=aC;have i1:(0:Int)<=(p:Int)%n:=zix _ aC;have i2:(p:Int)%n<n:=zmt _ zew;have i3:(0:Int)<=((p:Int)*7+3)%n:=zix _ aC;have i4:((p:Int)*7+3)%n<n:=zmt _ zew;have q0:(0:Int)<=(p:Int)/n:=Int.ediv_nonneg aC aC;have q1:(p:Int)/n<=1000000000:=Int.le_trans (Int.ediv_le_self _ aC) aC;obtain⟨v,hv,v0,v1⟩:=hj (p%n) (zyz _ h0);obtain⟨u,hu,u0,u1⟩:=hj ((p*7+3)%n) (zyz _ h0);have zbH:((n:Int)==0)=false:=pD;have zeH:(m==0)=false:=pD;clear h hb hj
 go_enter zhO,zg5
 go_wp2
 go_quiet (fail)
 go_wp2;go_ret;have hx:=zIG (v*131+u*1117+↑p*29+↑p/↑n*53) ((v*131+u*1117+↑p*29+↑p/↑n*53)/64) aC aC aC aC;exact⟨_,rfl,⟨Int.tmod_nonneg _ hx,Int.tmod_lt_of_pos _ aC⟩,(oK HB.o _).trans aQ,zI8 (zbP _ _) _⟩
variable {c:Nat}{K:Int->Prop}{e:Ig}
def Pq.mono {p d:Nat}{K':Int->Prop}(h:Pq w g A n c p d K e w')(hk:∀r,K r->K' r):Pq w g A n c p d K' e w':=
 let⟨r,he,hr,hb,hg⟩:=h;⟨r,he,hk r hr,hb,hg⟩
theorem zIb (g p n c:Nat)(A:Option bC)(m:Int)(w:aE)(h:RdX w g A n c p)(hm:1<=m)(sG:m<=1000000):
 gT aK 62 #[.pointer (some ⟨g,0,none⟩),.int .i64 m] w (Pq w g A n c p 1 λr=>0<=r/\r<m):=by
 by_cases h0:n=0
 .exact(zDb g p n c A m w h (.inr h0)).mono λ_ _ hd=>hd.mono λr hr=>by omega
 .by_cases hp:p<n
  .exact zAH g p n c A m w h hm sG hp
  .exact zCL g p n c A m w h hm sG hp aC
def RdX.next {p d:Nat}(h:RdX w g A n c p)(hb:w'.heap[g]? =some (.cells #[.slice A n c,.int .i64 ((p+d:Nat):Int)] 105))(hg:w.grownBy w' (some g))(hp:p+d<1000000000):RdX w' g A n c (p+d):=
 ⟨hb,h.bytes.keep λb hl=>hg.block b (Nat.lt_trans hl (gM h.blk)) pD,hp⟩
def zuG {b o:Nat}(h:w.grownBy w' (some g))(hb:b<w.heap.size)(aS:b≠g):w'.cell? ⟨b,o,none⟩=w.cell? ⟨b,o,none⟩:=
 Bs (h.block b hb zhg)
def We (h:a.grownBy w row)(o:qN):a.grownBy (w.alloc o) row:=
 ⟨h.os,h.tape,h.output,eE h.size aQ,λi hi aS=>(qA w o i (jP hi h.size)).trans (h.block i hi aS)⟩
variable {N:Nat}
def zgE {W w1:aE}{o:qN}(hb:W.grownBy w1 (some g))(hN:W.heap[N]? =some o)(aS:N≠g):w1.heap[N]? =some o/\N<w1.heap.size:=
 ⟨(hb.block N (gM hN) zhg).trans hN,jP (gM hN) hb.size⟩
def Rd (w:aE)(g:Nat)(A:Option bC)(n c q:Nat):Prop:=∃p,p<=q/\RdX w g A n c p
variable {q:Nat}
def Rd.mono {q':Nat}(h:Rd w g A n c q)(hq:q<=q'):Rd w g A n c q':=let⟨p,hp,hx⟩:=h;⟨p,aC,hx⟩
def Rd.keep (h:Rd w g A n c q)(k:∀b,b<=g->w'.heap[b]? =w.heap[b]?):Rd w' g A n c q:=
 let⟨p,hp,hx⟩:=h;⟨p,hp,(k g (bM _)).trans hx.blk,hx.bytes.keep λb hb=>k b aC,hx.lt⟩
def Rd.gblt (h:Rd w g A n c q):g<w.heap.size:=let⟨_,_,hx⟩:=h;gM hx.blk
def Rd.alloc (h:Rd w g A n c q)(o:qN):Rd (w.alloc o) g A n c q:=
 h.keep λb hb=>qA w o b (zcJ hb h.gblt)
def Rd.setCell (h:Rd w g A n c q){a:bC}(ha:g<a.block)(v:aF):Rd (w.setCell a v) g A n c q:=
 h.keep λb hb=>dX w a v b aC
def Rd.below (h:Rd w g A n c q)(hb:cH w.heap.size w w'):Rd w' g A n c q:=
 h.keep λb hl=>hb.block b (zcJ hl h.gblt)
theorem zoP (h:a.grownBy w row){p:bC}(hp:a.heap.size<=p.block)(v:aF):a.grownBy (w.setCell p v) row:=
 ⟨h.os,h.tape,h.output,by simpa[zdp] using h.size,λi hi aS=>(dX w p v i aC).trans (h.block i hi aS)⟩
variable {cs:Array aF}{T:aM}
theorem rA (h:w.heap[N]? =some (.cells cs T))(o:Nat):w.frozen? ⟨N,o,none⟩=false:=by simp[I8,h]
def Got (w:aE)(g:Nat)(A:Option bC)(n c q:Nat)(K:Int->Prop)(e:Ig)(w':aE):Prop:=
 ∃r:Int,e=.returned (.int .i64 r)/\K r/\Rd w' g A n c q/\w.grownBy w' (some g)
theorem got_of {p:Nat}(hx:RdX w g A n c p)(hp:p<=q)(hq:q+1<1000000000)(h:Pq w g A n c p 1 K e w'):Got w g A n c (q+1) K e w':=by
 obtain⟨r,he,hr,hb,hg⟩:=h;exact⟨r,he,hr,⟨p+1,aC,hx.next hb hg aC⟩,hg⟩
theorem Dz (g q n c:Nat)(A:Option bC)(m:Int)(w:aE)(h:Rd w g A n c q)(hq:q+1<1000000000)(hm:1<=m)(sG:m<=1000000):
 gT aK 62 #[.pointer (some ⟨g,0,none⟩),.int .i64 m] w (Got w g A n c (q+1) λr=>0<=r/\r<m):=by
 obtain⟨p,hp,hx⟩:=h;exact(zIb g p n c A m w hx hm sG).mono λ_ _ hd=>got_of hx hp hq hd
theorem Vf (g q n c l lo k kc:Nat)(A:Option bC)(w:aE)(h:Rd w g A n c q)(hq:q+1<1000000000)(hk:0<k)(rL:k<=1000000)(hl:l<w.heap.size)(zdo:l≠g)
 (hc:∀j,j<k->∃v:Int,w.cell? ⟨l,lo+j,none⟩=some (.int .i64 v)):
 gT aK 88 #[.pointer (some ⟨g,0,none⟩),.slice (some ⟨l,lo,none⟩) k kc] w (Got w g A n c (q+1) λ_=>True):=by
 have H:=aD hc;clear hc
 go_enter Tryz.func88,Tryz.ntmps88
 go_wp2_with fail
 refine(Dz g q n c A _ _ h hq aC aC).mono ?_;rintro e w1 ⟨r,rfl,⟨r0,r1⟩,hr,hg⟩;obtain⟨v,hv⟩:=H.o r.toNat aC;have pS:=(zuG hg hl zdo).trans hv;clear hv;go_wp2;go_ret;exact⟨v,rfl,trivial,hr,hg⟩
theorem zCy {l:Nat}{fz:Nat×Nat}(h:w.heap[l]? =some (.cells cs T fz))(k:Nat)(hk:∀j,j<k->∃v:Int,cs[j]? =some (.int .i64 v)):
 ∀j,j<k->∃v:Int,w.cell? ⟨l,0+j,none⟩=some (.int .i64 v):=λj hj=>by
 obtain⟨v,hv⟩:=hk j hj;exact⟨v,by rw[qV,aI h,hv]⟩
structure Code (w:aE)(A:Option bC)(n c:Nat):Prop where
 le:n<=c
 cap:c<=maxLen
 at_:0<n->∃b off,A=some ⟨b,off,none⟩/\b<w.heap.size/\∀j,j<n->∃v:Int,w.cell? ⟨b,off+j,none⟩=some (.int .u8 v)/\0<=v/\v<=255
def Opened (w:aE)(e:Ig)(w':aE):Prop:=∃g A n c,e=.returned (.pointer (some ⟨g,0,none⟩))/\Rd w' g A n c 0/\cH w.heap.size w w'/\w.heap.size<=g
theorem zsq {m:Nat}(h:Code w A n c)(hm:m<=n)(sG:m<=2000)(o:qN):zc3 (w.alloc o) w.heap.size A m:=
 ⟨sG,λh0=>by
  obtain⟨b,off,e,hb,hj⟩:=h.at_ aC;refine⟨b,off,e,hb,λj zwr=>?_⟩;obtain⟨v,hv,h1⟩:=hj j aC;exact⟨v,(ztR w o _ hb).trans hv,h1⟩⟩
theorem Code.alloc (h:Code w A n c)(o:qN):Code (w.alloc o) A n c:=
 ⟨h.le,h.cap,λh0=>by
  obtain⟨b,off,e,hb,hj⟩:=h.at_ h0;refine⟨b,off,e,pD,λj zwr=>?_⟩;obtain⟨v,hv,h1⟩:=hj j zwr;exact⟨v,(ztR w o _ hb).trans hv,h1⟩⟩
theorem zIS (A:Option bC)(n c:Nat)(w:aE)(h:Code w A n c):gT aK 48 #[.slice A n c] w (Opened w):=by
 have hl:=h.le;have qP:=h.cap;unfold maxLen at qP;by_cases hn:2000<n
 .obtain⟨b,off,rfl,hb,hj⟩:=h.at_ aC
  clear hj
  go_enter zrY,zwZ
  go_wp2;go_ret;exact⟨_,_,2000,c,rfl,⟨0,aC,gV _ _,zsq h aC aC _,aC⟩,eK (gD _ _) _,bM _⟩
 .go_enter zrY,zwZ
  go_wp2;go_ret;exact⟨_,A,n,c,rfl,⟨0,aC,gV _ _,zsq h aC aC _,aC⟩,eK (gD _ _) _,bM _⟩
end Go.Proofs.YtfcjiloojkjaeaaGreatDoor
namespace Go.Proofs.YtfcjiloojkjaeaaGreatDoor
open Go.Joins Go.ChangeShapes Go.WideShapes Go.RowKit Go.Deep
section
variable {H:Type}{enc:aM×aF->H}{P:cD}{w:aE}{base:Nat}{held:Bool}
variable {p:List MemPlace}
theorem zFA {t e:aM}{A:Option bC}{len cap:Nat}{d:DataW H}(ht:P.underlying t=some (.slice e))(he:P.underlying e=some (.int .u8))(hc:P.cellsOf e=1)
 (h:DataW.Trod enc P w base (λ_=>true) held t (.slice A len cap) d p):Code w A len cap:=by
 obtain⟨fuel,hf⟩:=h;rcases open_ints ht he hc hf with⟨gS,_⟩|⟨a,len',Pk,zs,gS,_,hl,hm,hz,_,hcell,tP⟩
 .simp[Vz] at gS
  obtain⟨rfl,rfl,rfl⟩:=gS;exact⟨bM _,lU _,λh0=>absurd h0 aC⟩
 .simp[Vz] at gS
  obtain⟨rfl,rfl,rfl⟩:=gS;simp only[if_true] at hz;refine⟨hl,hm,λh0=>?_⟩;obtain⟨b,off,spot⟩:=a;have h1:=hcell 0 aC;have zFO:spot=none:=by simpa[zfA] using aE.cell?_spot h1
  subst zFO;have hb:b<w.heap.size:=by have:=aE.block_lt_of_cell? w _ h1;rw[add_plain] at this;exact this
  refine⟨b,off,rfl,hb,λj hj=>?_⟩;have h2:=hcell j aC;rw[add_plain] at h2;have h3:=range_u8 tP j;rw[<-List.getD_eq_getElem?_getD] at h3;exact⟨_,h2,h3.1,h3.2⟩
end
end Go.Proofs.YtfcjiloojkjaeaaGreatDoor
namespace Go.Proofs.YtfcjiloojkjaeaaGreatDoor
open Go.ChangeShapes Go.WideShapes Go.ChangeAt Go.RowKit
section
variable {P:cD}{w:aE}{base:Nat}
theorem zG8 {t e:aM}{A:Option bC}{n c:Nat}{r:Reach}(ht:P.underlying t=some (.slice e))(h:ztf P w r base t (.slice A n c)):∀a,A=some a->a.spot=none/\∃cs T fz,w.heap[a.block]? =some (.cells cs T fz):=by
 intro a e;subst e;simp only[ztf,ht,Cell.okWide,Cell.ok,aE.has] at h;obtain⟨_,_,_,I5,row,cells,nF,_⟩:=h;refine⟨I5,?_⟩;unfold zb9 at nF;split at nF
 .rename_i cs T fz hb
  exact⟨cs,T,fz,hb⟩
 .cases nF
end
end Go.Proofs.YtfcjiloojkjaeaaGreatDoor
namespace Go.Proofs.YtfcjiloojkjaeaaGreatDoor
open Go.RowKit
structure bO where
 c:Int
 l:Int
 o:Int
 f:Int
 h:Int
 t:Int
 e:ByteArray
 deriving DecidableEq
def bO.cells (d:bO):List Value:=[.int .i64 d.c,.int .i64 d.l,.int .i64 d.o,.int .i64 d.f,.int .i64 d.h,.int .i64 d.t,.string d.e]
def recs (ds:List bO):List Value:=ds.flatMap bO.cells
def zqd (ds:List bO):(recs ds).length=ds.length*7:=J4 bO.cells (s:=7) (λ_=>rfl) ds
variable {ds:List bO}{k:Nat}{d:bO}
theorem zzK (h:ds[k]? =some d):(recs ds)[k*7+0]? =some (.int .i64 d.c)/\(recs ds)[k*7+1]? =some (.int .i64 d.l)/\(recs ds)[k*7+2]? =some (.int .i64 d.o)/\(recs ds)[k*7+3]? =some (.int .i64 d.f)/\(recs ds)[k*7+4]? =some (.int .i64 d.h)/\(recs ds)[k*7+5]? =some (.int .i64 d.t)/\(recs ds)[k*7+6]? =some (.string d.e):=by
 have e:=λi hi=>Ov bO.cells (s:=7) (λ_=>rfl) ds k i hi;unfold recs;rw[e 0 aC,e 1 aC,e 2 aC,e 3 aC,e 4 aC,e 5 aC,e 6 aC,h];exact⟨rfl,rfl,rfl,rfl,rfl,rfl,rfl⟩
variable {w:aE}{lo hi n c:Nat}{A:Option bC}
theorem cJ.recLen (h:cJ w lo hi 7 A n c (recs ds)):ds.length=n:=by
 have:=h.len;rw[zqd] at this;omega
structure RecAt (w:aE)(b off:Nat)(d:bO):Prop where
 c0:w.cell? ⟨b,off,none⟩=some (.int .i64 d.c)
 c1:w.cell? ⟨b,off+1,none⟩=some (.int .i64 d.l)
 c2:w.cell? ⟨b,off+2,none⟩=some (.int .i64 d.o)
 c3:w.cell? ⟨b,off+3,none⟩=some (.int .i64 d.f)
 c4:w.cell? ⟨b,off+4,none⟩=some (.int .i64 d.h)
 c5:w.cell? ⟨b,off+5,none⟩=some (.int .i64 d.t)
 c6:w.cell? ⟨b,off+6,none⟩=some (.string d.e)
theorem cJ.recAt (h:cJ w lo hi 7 A n c (recs ds))(hk:k<n):
 ∃b off d,A=some ⟨b,off,none⟩/\lo<=b/\b<hi/\b<w.heap.size/\ds[k]? =some d/\RecAt w b (off+k*7) d:=by
 obtain⟨b,off,e,h1,h2,h3,h4⟩:=h.cells hk;have hl:k<ds.length:=by rw[h.recLen];exact hk
 obtain⟨g0,g1,g2,g3,g4,g5,g6⟩:=zzK (oQ hl);exact⟨b,off,ds[k],e,h1,h2,h3,oQ hl,⟨h4 0 _ g0,h4 1 _ g1,h4 2 _ g2,h4 3 _ g3,h4 4 _ g4,h4 5 _ g5,h4 6 _ g6⟩⟩
def recP (c l o f h t:Int)(e:List UInt8):Prop:=
 1<=c/\c<=99/\1<=l/\l<=6/\0<=o/\o<=4/\0<=f/\f<=3600/\
  (
   (e=[111,112,101,110]/\t= -1/\((o=0/\h= -1)\/(o≠0/\f<=h/\h<=3600)))\/
   (e=[100,111,110,101]/\o≠0/\f<=h/\h<=t/\t<=3600)\/
   ((e=[108,101,102,116]\/e=[116,105,114,101,100])/\o=0/\h= -1/\f<=t/\t<=3600))
instance (c l o f h t:Int)(e:List UInt8):Decidable (recP c l o f h t e):=by unfold recP;infer_instance
def recB (c l o f h t:Int)(e:List UInt8):Bool:=decide (recP c l o f h t e)
def overP (o f h t:Int)(e:List UInt8):Prop:=
 (e=[100,111,110,101]/\0<o/\f<=h/\h<=t/\t<=3600/\f<=t)\/
  ((e=[108,101,102,116]\/e=[116,105,114,101,100])/\o=0/\h= -1/\f<=t/\t<=3600)
instance (o f h t:Int)(e:List UInt8):Decidable (overP o f h t e):=by unfold overP;infer_instance
theorem cJ.rec7 (h:cJ w lo hi 7 A n c (recs ds))(hk:k<n):
 ∃b off d,A=some ⟨b,off,none⟩/\lo<=b/\b<hi/\b<w.heap.size/\ds[k]? =some d/\w.cell? ⟨b,off+k*7,none⟩=some (.int .i64 d.c)/\w.cell? ⟨b,off+k*7+1,none⟩=some (.int .i64 d.l)/\w.cell? ⟨b,off+k*7+2,none⟩=some (.int .i64 d.o)/\w.cell? ⟨b,off+k*7+3,none⟩=some (.int .i64 d.f)/\w.cell? ⟨b,off+k*7+4,none⟩=some (.int .i64 d.h)/\w.cell? ⟨b,off+k*7+5,none⟩=some (.int .i64 d.t)/\w.cell? ⟨b,off+k*7+6,none⟩=some (.string d.e):=by
 obtain⟨b,off,d,e,h1,h2,h3,hd,⟨c0,c1,c2,c3,c4,c5,c6⟩⟩:=h.recAt hk;exact⟨b,off,d,e,h1,h2,h3,hd,c0,c1,c2,c3,c4,c5,c6⟩
def zsI:(aK.info? 50).map (λi=>(i.zero,i.size,i.bytes))=some (some (.agg #[.int .i64 0,.int .i64 0,.int .i64 0,.int .i64 0,.int .i64 0,.int .i64 0,.string ⟨#[]⟩]),7,64):=aU
variable {α:Type}
theorem zCU {p:α->Bool}{l:List α}{a:α}(h:∀j,j<k->∀b,l[j]? =some b->p b=true)(hk:l[k]? =some a)(ha:p a=true):∀j,j<k+1->∀b,l[j]? =some b->p b=true:=by
 intro j hj b hb;by_cases e:j=k
 .subst e;rw[hk] at hb;injection hb with hb;subst hb;exact ha
 .exact h j aC b hb
theorem allF_of {p:α->Bool}{l:List α}(h:∀j,j<k->∀b,l[j]? =some b->p b=true)(hk:l.length<=k):l.all p=true:=by
 rw[List.all_eq_true];intro a ha;obtain⟨j,hj,e⟩:=Mz.1 ha;exact h j aC a (by rw[oQ hj,e])
theorem zCC {p:α->Bool}{l:List α}{a:α}(hk:l[k]? =some a)(ha:p a=false):l.all p=false:=by
 rw[List.all_eq_false];exact⟨a,List.mem_of_getElem? hk,by simp[ha]⟩
structure bH where
 c:Int
 p:Int
 deriving DecidableEq
def bH.cells (x:bH):List Value:=[.int .i64 x.c,.int .i64 x.p]
def bK (xs:List bH):List Value:=xs.flatMap bH.cells
structure fG where
 ln:Int
 op:Int
 pt:Int
 deriving DecidableEq
structure dS where
 k:ByteArray
 a:Int
 b:Int
 deriving DecidableEq
def dS.cells (x:dS):List Value:=[.string x.k,.int .i64 x.a,.int .i64 x.b]
def qX (xs:List dS):List Value:=xs.flatMap dS.cells
def cU (d:bO):Bool:=d.e.toList==[111,112,101,110]
def Bu (c:Int)(d:bO):Bool:=d.c==c&&cU d
def gU (rs:List bO)(c:Int):Option Nat:=rs.findIdx? (Bu c)
def Ht:Option Nat->Int
 |some i=>(i:Int)
 |none=>-1
def x3 (op:Int)(d:bO):Bool:=d.o==op&&cU d
def dE (rs:List bO)(op:Int):Int:=match rs.find? (x3 op) with|some d=>d.c|none=>0
def sC (rs:List bO)(l:Int):Bool:=rs.any λd=>d.l==l&&cU d
def yL (rs:List bO)(n:Nat):List Int:=((List.range n).map λi:Nat=>(i:Int)+1).filter λl=>!sC rs l
def oX (o:fG)(rs:List bO):List Int:=yL rs o.ln.toNat
def uL (xs:List bH)(c:Int):Option Nat:=xs.findIdx? λx=>x.c==c
def dK (xs:List bH)(c:Int):List bH:=xs.filter λx=>x.c !=c
def tJ (xs:List bH)(c:bH):List bH:=xs.takeWhile (λx=>decide (c.p<=x.p))++c::xs.dropWhile (λx=>decide (c.p<=x.p))
structure b6 where
 o:fG
 clk:Int
 recs:List bO
 wait:List bH
 back:List bH
 log:List (List UInt8)
def vT:ByteArray:=⟨#[100,111,110,101]⟩
def vS:ByteArray:=⟨#[108,101,102,116]⟩
def uK:ByteArray:=⟨#[116,105,114,101,100]⟩
def eP:ByteArray:=⟨#[111,112,101,110]⟩
def vY (b:b6)(i:Nat)(e:ByteArray):List bO:=b.recs.modify i λd=>{d with t:=b.clk,e:=e}
def Da (rs:List bO)(i:Nat):Int:=match rs[i]? with|some d=>d.c|none=>0
def lP (b:b6)(i:Nat)(e:ByteArray):b6:={b with recs:=vY b i e,wait:=dK b.wait (Da b.recs i)}
def gA (n:Int):List UInt8:=Ly n
def o8 (b:b6)(c:bH):b6×List UInt8:=
 if(gU b.recs c.c).isSome||(uL b.back c.c).isSome then(b,[107,110,111,119,110])
 else match oX b.o b.recs with
  |[]=>({b with back:=b.back++[c]},[98,117,115,121])
  |l::_=>({b with recs:=b.recs++[⟨c.c,l,0,b.clk,-1,-1,eP⟩],wait:=tJ b.wait c},[108,105,110,101,32]++gA l)
def nL (b:b6)(op:Int):b6×List UInt8:=
 if 0<dE b.recs op then(b,[116,97,108,107,115])
 else match b.wait with
  |[]=>(b,[110,111,110,101])
  |c::_=>match gU b.recs c.c with
   |none=>(b,[])
   |some i=>({b with recs:=b.recs.modify i λd=>{d with o:=op,h:=b.clk},wait:=dK b.wait c.c},[99,97,108,108,32]++gA c.c)
def l9 (b:b6)(op:Int):b6×List UInt8:=
 if 0<dE b.recs op then(b,[116,97,108,107,115])
 else match b.back with
  |[]=>(b,[110,111,110,101])
  |c::_=>match oX b.o b.recs with
   |[]=>(b,[98,117,115,121])
   |l::_=>({b with back:=dK b.back c.c,recs:=b.recs++[⟨c.c,l,op,b.clk,b.clk,-1,eP⟩]},[99,97,108,108,32]++gA c.c)
def opAt (rs:List bO)(i:Nat):Int:=match rs[i]? with|some d=>d.o|none=>0
def mP (b:b6)(c:Int):b6×List UInt8:=
 match gU b.recs c with
 |some i=>if 0<opAt b.recs i then(lP b i vT,[100,111,110,101]) else(lP b i vS,[108,101,102,116])
 |none=>if(uL b.back c).isSome then({b with back:=dK b.back c},[111,102,102]) else(b,[103,111,110,101])
def Yw (rs:List bO)(i:Nat):Int:=match rs[i]? with|some d=>d.f|none=>0
def mD (bt:b6×List UInt8)(x:bH):b6×List UInt8:=
 match gU bt.1.recs x.c with
 |none=>bt
 |some i=>if bt.1.o.pt<=bt.1.clk-Yw bt.1.recs i then
  ({lP bt.1 i uK with back:=bt.1.back++[x]},bt.2++[32]++gA x.c) else bt
def tK (b:b6)(m:Int):b6×List UInt8:=b.wait.foldl mD ({b with clk:=b.clk+m},[97,116,32]++gA (b.clk+m))
def Cj:List UInt8:=[114,105,110,103]
def D9:List UInt8:=[104,97,110,103]
def Ge:List UInt8:=[97,110,115,119,101,114]
def Dj:List UInt8:=[114,101,116,117,114,110]
def zcU:List UInt8:=[119,97,105,116]
def dR (b:b6)(e:dS):b6×List UInt8:=
 if e.k.toList=Cj then o8 b ⟨e.a,e.b⟩ else if e.k.toList=Ge then nL b e.a else if e.k.toList=Dj then l9 b e.a else if e.k.toList=D9 then mP b e.a else tK b e.a
def Mq (ops:Int)(e:dS):Prop:=
 (e.k.toList=Cj/\1<=e.a/\e.a<=99/\0<=e.b/\e.b<=9)\/(e.k.toList=D9/\1<=e.a/\e.a<=99/\e.b=0)\/((e.k.toList=Ge\/e.k.toList=Dj)/\1<=e.a/\e.a<=ops/\e.b=0)\/(e.k.toList=zcU/\1<=e.a/\e.a<=60/\e.b=0)
instance (ops:Int)(e:dS):Decidable (Mq ops e):=by unfold Mq;infer_instance
def rB (ops:Int)(e:dS):Bool:=decide (Mq ops e)
def qQ (o:fG):Bool:=decide (1<=o.ln/\o.ln<=6/\1<=o.op/\o.op<=4/\1<=o.pt/\o.pt<=60)
def eG (o:fG)(es:List dS):Bool:=qQ o&&decide (es.length<=60)&&es.all (rB o.op)
def lV (o:fG):b6:=⟨o,0,[],[],[],[]⟩
def Em (bt:b6×List UInt8):b6:={bt.1 with log:=bt.1.log++[bt.2]}
def Ee (o:fG)(es:List dS):b6:=es.foldl (λb e=>Em (dR b e)) (lV o)
def uD (o:fG)(es:List dS):b6:=if eG o es then Ee o es else lV o
variable {ds:List dS}
theorem cJ.eventsLen (h:cJ w lo hi 3 A n c (qX ds)):ds.length=n:=by
 have h1:=h.len;have h2:=J4 dS.cells (s:=3) (λ_=>rfl) ds;unfold qX at h1;omega
theorem cJ.eventsAt (h:cJ w lo hi 3 A n c (qX ds))(hk:k<n):
 ∃b off d,A=some ⟨b,off,none⟩/\lo<=b/\b<hi/\b<w.heap.size/\ds[k]? =some d/\w.cell? ⟨b,off+k*3,none⟩=some (.string d.k)/\w.cell? ⟨b,off+k*3+1,none⟩=some (.int .i64 d.a)/\w.cell? ⟨b,off+k*3+2,none⟩=some (.int .i64 d.b):=by
 have hl:=h.eventsLen;have hx:ds[k]? =some ds[k]:=oQ aC;have g:∀i,i<3->(qX ds)[k*3+i]? =(ds[k].cells)[i]? :=λi hi=>by
  have:=Ov dS.cells (s:=3) (λ_=>rfl) ds k i hi;rw[hx] at this;exact this
 obtain⟨b,off,rfl,h1,h2,h3,h4⟩:=h.cells hk;exact⟨b,off,ds[k],rfl,h1,h2,h3,hx,h4 0 _ (g 0 aH),by rw[zcR];exact h4 1 _ (g 1 aH),by rw[zcR];exact h4 2 _ (g 2 aH)⟩
def txt (l:List UInt8):Value:=.string ⟨l.toArray⟩
def wF (ss:List (List UInt8)):List Value:=ss.map txt
variable {ss:List (List UInt8)}
theorem zIu {l:List UInt8}(h:ss[k]? =some l):(wF ss)[k]? =some (.string ⟨l.toArray⟩):=by simp[wF,h,txt]
theorem zHa (ss:List (List UInt8)):(wF ss).length=ss.length:=by simp[wF]
theorem cJ.txtLen (h:cJ w lo hi 1 A n c (wF ss)):ss.length=n:=by
 have:=h.len;rw[zHa] at this;omega
theorem cJ.txtAt (h:cJ w lo hi 1 A n c (wF ss))(hk:k<n):
 ∃b off l,A=some ⟨b,off,none⟩/\lo<=b/\b<hi/\b<w.heap.size/\ss[k]? =some l/\w.cell? ⟨b,off+k,none⟩=some (.string ⟨l.toArray⟩):=by
 obtain⟨b,off,e,h1,h2,h3,h4⟩:=h.at_ aC;have hl:k<ss.length:=by rw[h.txtLen];exact hk
 exact⟨b,off,ss[k],e,h1,h2,h3,oQ hl,h4 k _ (zIu (oQ hl))⟩
variable {ds:List bH}
theorem cJ.callsLen (h:cJ w lo hi 2 A n c (bK ds)):ds.length=n:=by
 have h1:=h.len;have h2:=J4 bH.cells (s:=2) (λ_=>rfl) ds;unfold bK at h1;omega
theorem cJ.callsAt (h:cJ w lo hi 2 A n c (bK ds))(hk:k<n):
 ∃b off d,A=some ⟨b,off,none⟩/\lo<=b/\b<hi/\b<w.heap.size/\ds[k]? =some d/\w.cell? ⟨b,off+k*2,none⟩=some (.int .i64 d.c)/\w.cell? ⟨b,off+k*2+1,none⟩=some (.int .i64 d.p):=by
 have hl:=h.callsLen;have hx:ds[k]? =some ds[k]:=oQ aC;have g:∀i,i<2->(bK ds)[k*2+i]? =(ds[k].cells)[i]? :=λi hi=>by
  have:=Ov bH.cells (s:=2) (λ_=>rfl) ds k i hi;rw[hx] at this;exact this
 obtain⟨b,off,rfl,h1,h2,h3,h4⟩:=h.cells hk;exact⟨b,off,ds[k],rfl,h1,h2,h3,hx,h4 0 _ (g 0 aH),by rw[zcR];exact h4 1 _ (g 1 aH)⟩
variable {W0:aE}{a1 a2:bC}{v1 v2:aF}
def sD {W:aE}(h:W.cell? a1=some v1/\W.cell? a2=some v2/\cH W0.heap.size W0 W):cH W0.heap.size W0 W:=h.2.2
def zq0 {W':aE}(z1:a1.block<W0.heap.size)(z2:a2.block<W0.heap.size)(h1:W0.cell? a1=some v1)(h2:W0.cell? a2=some v2)(hb:cH W0.heap.size W0 W'):W'.cell? a1=some v1/\W'.cell? a2=some v2/\cH W0.heap.size W0 W':=
 ⟨(Bs (hb.block _ z1)).trans h1,(Bs (hb.block _ z2)).trans h2,hb⟩
section
variable {P:cD}(w:aE)
theorem zzD (t ty:aM)(base:Nat)(e:aM)(i:wG)(z:aF)(size bytes:Nat)(ht:P.underlying t=some (.slice e))(hi:P.info? e=some i)(hz:i.zero=some z)
 (yD:i.size=size) (uW:i.bytes=bytes) (hzs:z.cells.size=size) (cP:0<size)
 (g0 n c0:Nat) (xs:List aF) (cY:w.ownsRow base e size (.slice (some ⟨g0,0,none⟩) n c0) n xs)
 (A:Option bC) (m c lo lS:Nat) (news:List aF) (hs:cJ w lo lS size A m c news) (h1:∀u∈news,u.oneCell'=true)
 (x9:n+m<=maxLen) (yE:(n+m)*bytes<=140737488355328) (sX:base<=w.heap.size):
 ∃g cap w',(xR #[t,t] ty #[.slice (some ⟨g0,0,none⟩) n c0,.slice A m c]).run P w=.ok (.slice (some ⟨g,0,none⟩) (n+m) cap) w'/\
  w'.ownsRow base e size (.slice (some ⟨g,0,none⟩) (n+m) cap) (n+m) (xs++news)/\w.grownBy w' (Gb (.slice (some ⟨g0,0,none⟩) n c0))/\cH base w w':=by
 cases A with
 |none=>
  have hm:m=0:=by
   rcases Nat.eq_zero_or_pos m with h|h
   .exact h
   .obtain⟨b,off,e,_⟩:=hs.at_ h;cases e
  subst hm;have pI:news=[]:=by have:=hs.len;simp at this;exact this
  subst pI;have hle:n<=c0:=by
   obtain⟨_,h|⟨b,cap,cur,e,h1,h2,h3,_⟩⟩:=cY
   .cases h.1
   .injection e with _ _ e;omega
  have hr:=run_append_room_src (P:=P) w t t ty e i ht hi g0 0 n c0 (.slice none 0 c) 0 [] (Src.ofNil (P:=P) (e':=e) w ht c) aC (by intro j hj;simp at hj) (by intro j hj;simp at hj);refine⟨g0,c0,w,by simpa[aE.setCells] using hr,by simpa using cY,⟨rfl,rfl,rfl,bM _,λ_ _ _=>rfl⟩,gD _ _⟩
 |some ad=>
  by_cases hm:0<m
  .obtain⟨b,off,e',_,_,_,h4⟩:=hs.at_ hm
   injection e' with e';subst e';exact znX w t ty base e i z size bytes ht hi hz yD uW hzs cP _ n xs cY aQ _ m c news hs.len (λj u hu=>by rw[bC.add_lit];exact h4 j u hu) h1 x9 yE sX
  .obtain rfl:m=0:=aC
   have pI:news=[]:=by have:=hs.len;simp at this;exact this
   subst pI;exact znX w t ty base e i z size bytes ht hi hz yD uW hzs cP _ n xs cY aQ _ 0 c [] aQ (λj u hu=>by simp at hu) (λu hu=>by cases hu) x9 yE sX
variable {o:aZ}{a:Act}
theorem wp_apps {K:Act->aE->Prop}{Q:Exit->Act->aE->Prop}(s x:cN)(t:aM)
 (ho:o.op=.call {callee:=.builtin .append,args:=#[s,x],argTypes:=#[t,t]})
 (base:Nat) (e:aM) (i:wG) (z:aF) (size bytes:Nat) (ht:P.underlying t=some (.slice e)) (hi:P.info? e=some i) (hz:i.zero=some z)
 (yD:i.size=size) (uW:i.bytes=bytes) (hzs:z.cells.size=size) (cP:0<size)
 (g0 n c0:Nat) (xs:List aF) (zmU:a.eval s=.slice (some ⟨g0,0,none⟩) n c0) (cY:w.ownsRow base e size (.slice (some ⟨g0,0,none⟩) n c0) n xs)
 (A:Option bC) (m c lo lS:Nat) (news:List aF) (hx:a.eval x=.slice A m c) (hs:cJ w lo lS size A m c news) (h1:∀u∈news,u.oneCell'=true)
 (x9:n+m<=maxLen) (yE:(n+m)*bytes<=140737488355328) (sX:base<=w.heap.size)
 (h:∀g cap w',w'.ownsRow base e size (.slice (some ⟨g,0,none⟩) (n+m) cap) (n+m) (xs++news)->w.grownBy w' (Gb (.slice (some ⟨g0,0,none⟩) n c0))->cH base w w'->K (a.put o.dst (.slice (some ⟨g,0,none⟩) (n+m) cap)) w'):o.wp P a w K Q:=by
 obtain⟨g,cap,w',hr,h2,h3,h4⟩:=zzD (P:=P) w t o.type base e i z size bytes ht hi hz yD uW hzs cP g0 n c0 xs cY A m c lo lS news hs h1 x9 yE sX;unfold C5 execOp;simp only[ho,resolve,invoke,builtin,G3,Kl,Gx,uP,jO,uN,zmU,hx,hr];exact h g cap w' h2 h3 h4
theorem zfa {ops:Array aZ}{K:Act->aE->Prop}{Q:Exit->Act->aE->Prop}{EE:Prop}(hw:dI o (dL ops a.tmps)=true)(s x:cN)(t:aM)
 (ho:o.op=.call {callee:=.builtin .append,args:=#[s,x],argTypes:=#[t,t]})
 (base:Nat) (e:aM) (i:wG) (z:aF) (size bytes:Nat) (ht:P.underlying t=some (.slice e)) (hi:P.info? e=some i) (hz:i.zero=some z)
 (yD:i.size=size) (uW:i.bytes=bytes) (hzs:z.cells.size=size) (cP:0<size)
 (g0 n c0:Nat) (xs:List aF) (zmU:a.eval s=.slice (some ⟨g0,0,none⟩) n c0) (cY:w.ownsRow base e size (.slice (some ⟨g0,0,none⟩) n c0) n xs)
 (A:Option bC) (m c lo lS:Nat) (news:List aF) (hx:a.eval x=.slice A m c) (hs:cJ w lo lS size A m c news) (h1:∀u∈news,u.oneCell'=true)
 (x9:n+m<=maxLen) (yE:(n+m)*bytes<=140737488355328) (sX:base<=w.heap.size)
 (h:∀g cap w',w'.ownsRow base e size (.slice (some ⟨g,0,none⟩) (n+m) cap) (n+m) (xs++news)->w.grownBy w' (Gb (.slice (some ⟨g0,0,none⟩) n c0))->cH base w w'->K (a.put o.dst (.slice (some ⟨g,0,none⟩) (n+m) cap)) w'):
 if dI o (dL ops a.tmps)=true then C5 P o a w K Q else EE:=by
 rw[if_pos hw];exact wp_apps w s x t ho base e i z size bytes ht hi hz yD uW hzs cP g0 n c0 xs zmU cY A m c lo lS news hx hs h1 x9 yE sX h
end
theorem zcL {p:α->Bool}:∀{l:List α} {k:Nat} {a:α},l[k]? =some a->p a=true->(∀j,j<k->∀b,l[j]? =some b->p b=false)->l.findIdx? p=some k
 |[],k,a,h,_,_=>by simp at h
 |x::xs,0,a,h,ha,_=>by grind
 |x::xs,k+1,a,h,ha,hn=>by
  have hx:=hn 0 aC x rfl;rw[List.findIdx?_cons,hx,zcL (l:=xs) (k:=k) zcB ha (λj hj b hb=>hn (j+1) aC b zcP)];simp
theorem zla {p:α->Bool}{l:List α}(hn:∀j,j<k->∀b,l[j]? =some b->p b=false)(hk:l.length<=k):l.findIdx? p=none:=by
 rw[List.findIdx?_eq_none_iff];intro x hx;obtain⟨j,hj,e⟩:=Mz.1 hx;exact hn j aC x uB
theorem zrr {p:α->Bool}:∀{l:List α} {k:Nat} {a:α},l[k]? =some a->p a=true->(∀j,j<k->∀b,l[j]? =some b->p b=false)->l.find? p=some a
 |[],k,a,h,_,_=>by simp at h
 |x::xs,0,a,h,ha,_=>by simp_all
 |x::xs,k+1,a,h,ha,hn=>by
  have hx:=hn 0 aC x rfl;rw[List.find?_cons,hx];exact zrr (l:=xs) (k:=k) zcB ha (λj hj b hb=>hn (j+1) aC b zcP)
theorem find_no {p:α->Bool}{l:List α}(hn:∀j,j<k->∀b,l[j]? =some b->p b=false)(hk:l.length<=k):l.find? p=none:=by
 rw[List.find?_eq_none];intro x hx;obtain⟨j,hj,e⟩:=Mz.1 hx;rw[hn j aC x (by rw[oQ hj,e])];simp
theorem Sj {p:α->Bool}{l:List α}{a:α}(h:∀j,j<k->∀b,l[j]? =some b->p b=false)(hk:l[k]? =some a)(ha:p a=false):∀j,j<k+1->∀b,l[j]? =some b->p b=false:=by grind
theorem Mo (lo hi n c:Nat)(A:Option bC)(rs:List bO)(q:Int)(w:aE)(h:cJ w lo hi 7 A n c (recs rs))(hn:n<=1048576):
 gT aK 91 #[.slice A n c,.int .i64 q] w λe w'=>e=.returned (.int .i64 (Ht (gU rs q)))/\w'=w:=by
 have hl:=aD h.recLen
 go_enter Tryz.func91,Tryz.ntmps91
 go_wp2
 go_loop [5] (λi=>∃k:Nat,k<=n/\i=.int .i64 k/\∀j,j<k->∀b,rs[j]? =some b->Bu q b=false) (λi=>n-(intOf i).toNat)
 case atStart=>grind
 case round=>
  obtain⟨k,hk,rfl,gS⟩:=hrel;have HC:=aD gS;clear gS;by_cases aT:k<n
  .obtain⟨b,off,d,hA,_,_,h3,eR,gZ,pS,Cf,Ih,Iw,oA,zfY⟩:=h.rec7 aT
   subst hA;have HX:=aD eR;clear eR h pS Cf Ih Iw oA h3;have i0:(0:Int)<=(k:Int):=aC;have i1:(k:Int)<(n:Int):=aC;cases hq:(d.c==q)
   .have HP:=aD (show Bu q d=false by unfold Bu;rw[hq];rfl)
    go_wp2
    go_round
    case rel=>exact⟨k+1,aC,nE,Sj HC.o HX.o HP.o⟩
    case measure=>simp[intOf];omega
   .cases hd:(d.e.toList==[111,112,101,110])
    .have HP:=aD (show Bu q d=false by unfold Bu cU;rw[hq,hd];rfl)
     go_wp2
     go_round
     case rel=>exact⟨k+1,aC,nE,Sj HC.o HX.o HP.o⟩
     case measure=>simp[intOf];omega
    .have HP:=aD (show Bu q d=true by unfold Bu cU;rw[hq,hd];rfl)
     go_wp2;go_ret;exact⟨Hx (by unfold gU;rw[zcL HX.o HP.o HC.o];rfl),rfl⟩
  .have e:k=n:=aC
   subst e;clear h;go_wp2;go_ret;exact⟨Hx (by unfold gU;rw[zla HC.o zfi];rfl),rfl⟩
theorem Qj (lo hi n c:Nat)(A:Option bC)(rs:List bO)(q:Int)(w:aE)(h:cJ w lo hi 7 A n c (recs rs))(hn:n<=1048576):
 gT aK 45 #[.slice A n c,.int .i64 q] w λe w'=>e=.returned (.int .i64 (dE rs q))/\w'=w:=by
 have hl:=aD h.recLen
 go_enter Tryz.func45,Tryz.ntmps45
 go_wp2
 go_loop [5] (λi=>∃k:Nat,k<=n/\i=.int .i64 k/\∀j,j<k->∀b,rs[j]? =some b->x3 q b=false) (λi=>n-(intOf i).toNat)
 case atStart=>grind
 case round=>
  obtain⟨k,hk,rfl,gS⟩:=hrel;have HC:=aD gS;clear gS;by_cases aT:k<n
  .obtain⟨b,off,d,hA,_,_,h3,eR,gZ,pS,Cf,Ih,Iw,oA,zfY⟩:=h.rec7 aT
   subst hA;have HX:=aD eR;clear eR h pS Ih Iw oA h3;have i0:(0:Int)<=(k:Int):=aC;have i1:(k:Int)<(n:Int):=aC;cases hq:(d.o==q)
   .have HP:=aD (show x3 q d=false by unfold x3;rw[hq];rfl)
    go_wp2
    go_round
    case rel=>exact⟨k+1,aC,nE,Sj HC.o HX.o HP.o⟩
    case measure=>simp[intOf];omega
   .cases hd:(d.e.toList==[111,112,101,110])
    .have HP:=aD (show x3 q d=false by unfold x3 cU;rw[hq,hd];rfl)
     go_wp2
     go_round
     case rel=>exact⟨k+1,aC,nE,Sj HC.o HX.o HP.o⟩
     case measure=>simp[intOf];omega
    .have HP:=aD (show x3 q d=true by unfold x3 cU;rw[hq,hd];rfl)
     go_wp2;go_ret;exact⟨Hx (by unfold dE;rw[zrr HX.o HP.o HC.o]),rfl⟩
  .have e:k=n:=aC
   subst e;clear h;go_wp2;go_ret;exact⟨Hx (by unfold dE;rw[find_no HC.o zfi]),rfl⟩
theorem zdu (lo hi n c:Nat)(A:Option bC)(xs:List bH)(q:Int)(w:aE)(h:cJ w lo hi 2 A n c (bK xs))(hn:n<=1048576):
 gT aK 92 #[.slice A n c,.int .i64 q] w λe w'=>e=.returned (.int .i64 (Ht (uL xs q)))/\w'=w:=by
 have hl:=aD h.callsLen
 go_enter Tryz.func92,Tryz.ntmps92
 go_wp2
 go_loop [5] (λi=>∃k:Nat,k<=n/\i=.int .i64 k/\∀j,j<k->∀b,xs[j]? =some b->(b.c==q)=false) (λi=>n-(intOf i).toNat)
 case atStart=>grind
 case round=>
  obtain⟨k,hk,rfl,gS⟩:=hrel;have HC:=aD gS;clear gS;by_cases aT:k<n
  .obtain⟨b,off,d,hA,_,_,h3,eR,gZ,pS⟩:=h.callsAt aT
   subst hA;have HX:=aD eR;clear eR h pS h3;have i0:(0:Int)<=(k:Int):=aC;have i1:(k:Int)<(n:Int):=aC;cases hq:(d.c==q)
   .have HP:=aD hq
    go_wp2
    go_round
    case rel=>exact⟨k+1,aC,nE,Sj HC.o HX.o HP.o⟩
    case measure=>simp[intOf];omega
   .have HP:=aD hq
    go_wp2;go_ret;exact⟨Hx (by unfold uL;rw[zcL HX.o HP.o HC.o];rfl),rfl⟩
  .have e:k=n:=aC
   subst e;clear h;go_wp2;go_ret;exact⟨Hx zwR,rfl⟩
def zi4 (E s:Nat)(w:aE)(m:Nat)(xs:List aF)(v:aF)(w':aE):Prop:=∃g cp,v=.slice (some ⟨g,0,none⟩) m cp/\w'.ownsRow w.heap.size E s (.slice (some ⟨g,0,none⟩) m cp) m xs/\cH w.heap.size w w'
theorem zqn (bs:List bH)(b:bH):bK (bs++[b])=bK bs++b.cells:=by simp[bK]
def zeT:(aK.info? 100).map (λi=>(i.zero,i.size,i.bytes))=some (some (.agg #[.int .i64 0,.int .i64 0]),2,16):=aU
theorem zHm {xs:List bH}{d:bH}(q:Int)(h:xs[k]? =some d):dK (xs.take (k+1)) q=dK (xs.take k) q++(if d.c !=q then[d] else[]):=by
 unfold dK;rw[De,h,Qt];congr 1;simp[zwQ]
theorem zgR (lo hi n c:Nat)(A:Option bC)(xs:List bH)(q:Int)(w:aE)(h:cJ w lo hi 2 A n c (bK xs))(hn:n<=100000):
 gT aK 95 #[.slice A n c,.int .i64 q] w λe w'=>∃v,e=.returned v/\zi4 100 2 w (dK xs q).length (bK (dK xs q)) v w':=by
 have hl:=aD h.callsLen;obtain⟨i0,eY,fM,dF,hY⟩:=C8 zeT;have HI:=aD (And.intro eY (And.intro fM (And.intro dF hY)));clear eY fM dF hY
 go_enter Tryz.func95,Tryz.ntmps95
 go_wp2
 go_loopw [5,6] (λv i wr=>∃(k g L cl:Nat),k<=n/\i=.int .i64 k/\L=(dK (xs.take k) q).length/\v=.slice (some ⟨g,0,none⟩) L cl/\cH w.heap.size w wr/\wr.ownsRow w.heap.size 100 2 (.slice (some ⟨g,0,none⟩) L cl) L (bK (dK (xs.take k) q))) (λ_ i _=>n-(intOf i).toNat)
 case atStart=>exact⟨0,w.heap.size,0,0,lU _,rfl,rfl,rfl,eK (gD _ _) _,Md (bM _) (gV _ _)⟩
 case round=>
  obtain⟨k,g,L,cl,hk,rfl,hL,rfl,B,cY⟩:=hrel;have HL:=aD hL;have Jb:=aD cY;have HB:=aD B;have zoV:=B.size;have hlen:L<=k:=by rw[hL];unfold dK;exact eE (zdA _ _) pD
  clear hL cY;by_cases aT:k<n
  .obtain⟨b,off,d,hA,_,_,h3,eR,gZ,pS⟩:=(h.below B).callsAt aT
   subst hA;have HF:=aD (zHm q eR);clear eR h h3 B;have zzk:(0:Int)<=(k:Int):=aC;have i1:(k:Int)<(n:Int):=aC;cases hq:(d.c !=q)
   .rw[hq] at HF
    have HN:=aD (show dK (xs.take (k+1)) q=dK (xs.take k) q by rw[HF.o];simp);go_wp2;go_roundw
    case rel=>exact⟨k+1,g,L,cl,aC,nE,by rw[HN.o];exact HL.o,rfl,HB.o,by rw[HN.o];exact Jb.o⟩
    case measure=>simp[intOf];omega
   .rw[hq] at HF
    have HN:=aD (show dK (xs.take (k+1)) q=dK (xs.take k) q++[d] by rw[HF.o];simp);obtain⟨eY,fM,dF,hY⟩:=HI.o;have HH:=aD eY;clear eY
    go_wp2_with (at_builtin;refine zln _ rfl (.tmp 21) (.tmp 26) 57 rfl w.heap.size 100 i0 (.agg #[.int .i64 0,.int .i64 0]) 2 16 M5 HH.o fM dF hY rfl aH (.slice (some ⟨g,0,none⟩) L cl) L (bK (dK (xs.take k) q)) rfl (Bm Jb.o ?c1) aQ ⟨_,0,none⟩ 1 1 (bH.cells d) rfl rfl ?c2 Rp ?c5 ?c6 ?c7 ?_;(case c1=>exact λb hb=>qA _ _ b hb);(case c2=>exact Ez (cs:=(bH.cells d).toArray) (l6 _ _ aQ));(case c5=>unfold maxLen;omega);(case c6=>omega);(case c7=>(simp;omega));intro g1 c1 w1 qZ qJ B1;have Ah:=aD qZ;have jN:=aD B1;clear qZ qJ B1)
    go_roundw
    case rel=>
     refine⟨k+1,g1,L+1,c1,aC,nE,by rw[HN.o,HL.o];simp,rfl,(eK HB.o _).trans jN.o,?_⟩;rw[HN.o,zqn];exact Ah.o
    case measure=>simp[intOf];omega
  .have e:k=n:=aC
   subst e;have HT:=aD (show xs.take k=xs by rw[El zfi]);clear h B;go_wp2;go_ret;refine⟨_,rfl,g,cl,by rw[HL.o,HT.o];rfl,?_,HB.o⟩;have:=Jb.o;rw[HL.o,HT.o] at this;exact this
section
variable {P:cD}(w:aE)
theorem zh7 (t ty:aM)(base:Nat)(e:aM)(i:wG)(z:aF)(size bytes:Nat)(ht:P.underlying t=some (.slice e))(hi:P.info? e=some i)(hz:i.zero=some z)
 (yD:i.size=size) (uW:i.bytes=bytes) (hzs:z.cells.size=size) (cP:0<size)
 (gv cv n:Nat) (xs:List aF) (cY:w.ownsRow base e size (.slice (some ⟨gv,0,none⟩) n cv) n xs)
 (ad:bC) (m c:Nat) (news:List aF) (hl:news.length=m*size) (Gn:∀j u,news[j]? =some u->w.cell? (ad.add j)=some u) (h1:∀u∈news,u.oneCell'=true)
 (x9:n+m<=maxLen) (yE:(n+m)*bytes<=140737488355328) (sX:base<=w.heap.size):
 ∃g cap w',(xR #[t,t] ty #[.slice (some ⟨gv,0,none⟩) n cv,.slice (some ad) m c]).run P w=.ok (.slice (some ⟨g,0,none⟩) (n+m) cap) w'/\
  w'.ownsRow base e size (.slice (some ⟨g,0,none⟩) (n+m) cap) (n+m) (xs++news)/\w.grownBy w' (some gv)/\cH base w w'/\(g=gv\/g=w.heap.size):=by
 obtain⟨v',w',hr,h2,h3,h4,h5⟩:=zwT (P:=P) w base t ty e i z size bytes ht hi hz yD uW hzs cP _ n xs cY ad m c news hl Gn h1 x9 yE sX;obtain⟨g,cap,rfl⟩:=zit h2 (λh=>by have:=(h4.1 h).1;cases this);refine⟨g,cap,w',hr,h2,h3,zsN cY h3 sX,?_⟩;rcases h5 with h5|h5
 .exact .inl (by simpa[Gb] using h5)
 .exact .inr (by simpa[Gb] using h5)
variable {o:aZ}{a:Act}
theorem wp_app2 {K:Act->aE->Prop}{Q:Exit->Act->aE->Prop}(s x:cN)(t:aM)
 (ho:o.op=.call {callee:=.builtin .append,args:=#[s,x],argTypes:=#[t,t]})
 (base:Nat) (e:aM) (i:wG) (z:aF) (size bytes:Nat) (ht:P.underlying t=some (.slice e)) (hi:P.info? e=some i) (hz:i.zero=some z)
 (yD:i.size=size) (uW:i.bytes=bytes) (hzs:z.cells.size=size) (cP:0<size)
 (gv cv n:Nat) (xs:List aF) (hs:a.eval s=.slice (some ⟨gv,0,none⟩) n cv) (cY:w.ownsRow base e size (.slice (some ⟨gv,0,none⟩) n cv) n xs)
 (ad:bC) (m c:Nat) (news:List aF) (hx:a.eval x=.slice (some ad) m c) (hl:news.length=m*size) (Gn:∀j u,news[j]? =some u->w.cell? (ad.add j)=some u) (h1:∀u∈news,u.oneCell'=true)
 (x9:n+m<=maxLen) (yE:(n+m)*bytes<=140737488355328) (sX:base<=w.heap.size)
 (h:∀g cap w',w'.ownsRow base e size (.slice (some ⟨g,0,none⟩) (n+m) cap) (n+m) (xs++news)->w.grownBy w' (some gv)->cH base w w'->(g=gv\/g=w.heap.size)->K (a.put o.dst (.slice (some ⟨g,0,none⟩) (n+m) cap)) w'):o.wp P a w K Q:=by
 obtain⟨g,cap,w',hr,h2,h3,h4,h5⟩:=zh7 (P:=P) w t o.type base e i z size bytes ht hi hz yD uW hzs cP gv cv n xs cY ad m c news hl Gn h1 x9 yE sX;unfold C5 execOp;simp only[ho,resolve,invoke,builtin,G3,Kl,Gx,uP,jO,uN,hs,hx,hr];exact h g cap w' h2 h3 h4 h5
def zjZ {ops:Array aZ}{rest:List aZ}{Q:Exit->Act->aE->Prop}(Gf:o.guard=none)(s x:cN)(t:aM)
 (ho:o.op=.call {callee:=.builtin .append,args:=#[s,x],argTypes:=#[t,t]})
 (base:Nat) (e:aM) (i:wG) (z:aF) (size bytes:Nat) (ht:P.underlying t=some (.slice e)) (hi:P.info? e=some i) (hz:i.zero=some z)
 (yD:i.size=size) (uW:i.bytes=bytes) (hzs:z.cells.size=size) (cP:0<size)
 (gv cv n:Nat) (xs:List aF) (hs:a.eval s=.slice (some ⟨gv,0,none⟩) n cv) (cY:w.ownsRow base e size (.slice (some ⟨gv,0,none⟩) n cv) n xs)
 (ad:bC) (m c:Nat) (news:List aF) (hx:a.eval x=.slice (some ad) m c) (hl:news.length=m*size) (Gn:∀j u,news[j]? =some u->w.cell? (ad.add j)=some u) (h1:∀u∈news,u.oneCell'=true)
 (x9:n+m<=maxLen) (yE:(n+m)*bytes<=140737488355328) (sX:base<=w.heap.size)
 (h:∀g cap w',w'.ownsRow base e size (.slice (some ⟨g,0,none⟩) (n+m) cap) (n+m) (xs++news)->w.grownBy w' (some gv)->cH base w w'->(g=gv\/g=w.heap.size)->wpList P ops Q rest (a.put o.dst (.slice (some ⟨g,0,none⟩) (n+m) cap)) w'):wpList P ops Q (o::rest) a w:=
 wpList_plain Gf λ_ hK=>wp_app2 w s x t ho base e i z size bytes ht hi hz yD uW hzs cP gv cv n xs hs cY ad m c news hx hl Gn h1 x9 yE sX λg cap w' h2 h3 h4 h5=>hK _ _ (h g cap w' h2 h3 h4 h5)
end
structure fW where
 gR:Nat
 cR:Nat
 gW:Nat
 cW:Nat
 gB:Nat
 cB:Nat
 gL:Nat
 cL:Nat
abbrev fW.sR (v:fW)(r:b6):Value:=.slice (some ⟨v.gR,0,none⟩) r.recs.length v.cR
abbrev fW.sW (v:fW)(r:b6):Value:=.slice (some ⟨v.gW,0,none⟩) r.wait.length v.cW
abbrev fW.sB (v:fW)(r:b6):Value:=.slice (some ⟨v.gB,0,none⟩) r.back.length v.cB
abbrev fW.sL (v:fW)(r:b6):Value:=.slice (some ⟨v.gL,0,none⟩) r.log.length v.cL
abbrev fV (v:fW)(r:b6):Array Value:=#[.int .i64 r.o.ln,.int .i64 r.o.op,.int .i64 r.o.pt,.int .i64 r.clk,v.sR r,v.sW r,v.sB r,v.sL r]
abbrev yJ (v:fW)(r:b6):Obj:=.cells (fV v r) 59
structure eH (w:aE)(lo:Nat)(v:fW)(r:b6):Prop where
 rc:w.ownsRow lo 50 7 (v.sR r) r.recs.length (recs r.recs)
 wt:w.ownsRow lo 100 2 (v.sW r) r.wait.length (bK r.wait)
 bk:w.ownsRow lo 100 2 (v.sB r) r.back.length (bK r.back)
 lg:w.ownsRow lo 9 1 (v.sL r) r.log.length (wF r.log)
 ap:v.gR≠v.gW/\v.gR≠v.gB/\v.gR≠v.gL/\v.gW≠v.gB/\v.gW≠v.gL/\v.gB≠v.gL
structure o6 (v:fW)(w w':aE):Prop where
 os:w'.os=w.os
 tape:w'.tape=w.tape
 output:w'.output=w.output
 size:w.heap.size<=w'.heap.size
 block:∀b,b<w.heap.size->b≠v.gR->b≠v.gB->w'.heap[b]? =w.heap[b]?
structure yC (n:Nat)(v v':fW):Prop where
 r:v'.gR=v.gR\/n<=v'.gR
 w:v'.gW=v.gW\/n<=v'.gW
 b:v'.gB=v.gB\/n<=v'.gB
 l:v'.gL=v.gL
section
variable {w w' Gr:aE}{lo:Nat}{v v' zbA:fW}{r:b6}
def o6.of_below (v:fW)(h:cH w.heap.size w w'):o6 v w w':=⟨h.os,h.tape,h.output,h.size,λb hb _ _=>h.block b hb⟩
theorem o6.trans {n:Nat}(h:o6 v w w')(k:o6 v' w' Gr)(m:yC n v v')(hn:w.heap.size<=n):o6 v w Gr:=
 ⟨k.os.trans h.os,k.tape.trans h.tape,k.output.trans h.output,eE h.size k.size,λb hb h1 h2=>(k.block b (jP hb h.size) (λe=>by rcases m.r with x|x<;>omega) (λe=>by rcases m.b with x|x<;>omega)).trans (h.block b hb h1 h2)⟩
def o6.same (h:o6 v w w')(k:o6 v w' Gr):o6 v w Gr:=
 ⟨k.os.trans h.os,k.tape.trans h.tape,k.output.trans h.output,eE h.size k.size,λb hb h1 h2=>(k.block b (jP hb h.size) h1 h2).trans (h.block b hb h1 h2)⟩
def yC.refl (n:Nat)(v:fW):yC n v v:=⟨.inl rfl,.inl rfl,.inl rfl,rfl⟩
theorem yC.trans {n m:Nat}(h:yC n v v')(k:yC m v' zbA)(hm:n<=m):yC n v zbA:=
 ⟨
  k.r.elim (λe=>h.r.imp (λx=>e.trans x) (λx=>by omega)) (λx=>.inr aC),k.w.elim (λe=>h.w.imp (λx=>e.trans x) (λx=>by omega)) (λx=>.inr aC),
  k.b.elim (λe=>h.b.imp (λx=>e.trans x) (λx=>by omega)) (λx=>.inr aC),k.l.trans h.l⟩
def eH.keep (h:eH w lo v r)(k:∀b,b<w.heap.size->w'.heap[b]? =w.heap[b]?):eH w' lo v r:=⟨Bm h.rc k,Bm h.wt k,Bm h.bk k,Bm h.lg k,h.ap⟩
def eH.below (h:eH w lo v r)(k:cH w.heap.size w w'):eH w' lo v r:=h.keep λb hb=>k.block b hb
def eH.alloc (h:eH w lo v r)(o:qN):eH (w.alloc o) lo v r:=h.keep λb hb=>qA w o b hb
def eH.lts (h:eH w lo v r):lo<=v.gR/\v.gR<w.heap.size/\lo<=v.gW/\v.gW<w.heap.size/\lo<=v.gB/\v.gB<w.heap.size/\lo<=v.gL/\v.gL<w.heap.size:=
 ⟨(h.rc.lt _ rfl).1,(h.rc.lt _ rfl).2,(h.wt.lt _ rfl).1,(h.wt.lt _ rfl).2,(h.bk.lt _ rfl).1,(h.bk.lt _ rfl).2,(h.lg.lt _ rfl).1,(h.lg.lt _ rfl).2⟩
def eH.slcR (h:eH w lo v r):cJ w lo w.heap.size 7 (some ⟨v.gR,0,none⟩) r.recs.length v.cR (recs r.recs):=Av h.rc aH
def eH.slcW (h:eH w lo v r):cJ w lo w.heap.size 2 (some ⟨v.gW,0,none⟩) r.wait.length v.cW (bK r.wait):=Av h.wt aH
def eH.slcB (h:eH w lo v r):cJ w lo w.heap.size 2 (some ⟨v.gB,0,none⟩) r.back.length v.cB (bK r.back):=Av h.bk aH
def eH.clock (h:eH w lo v r)(k:Int):eH w lo v {r with clk:=k}:=⟨h.rc,h.wt,h.bk,h.lg,h.ap⟩
variable {xs:List bH}
theorem eH.newW {m g c:Nat}(h:eH w lo v r)(hk:∀b,b<w.heap.size->w'.heap[b]? =w.heap[b]?)(ho:w'.ownsRow lo 100 2 (.slice (some ⟨g,0,none⟩) m c) m (bK xs))(hm:m=xs.length)(hg:w.heap.size<=g):
 eH w' lo {v with gW:=g,cW:=c} {r with wait:=xs}:=by
 have l:=h.lts;have k:=h.keep hk;subst hm;exact⟨k.rc,ho,k.bk,k.lg,by have:=h.ap;simp only;omega⟩
theorem eH.newB {m g c:Nat}(h:eH w lo v r)(hk:∀b,b<w.heap.size->w'.heap[b]? =w.heap[b]?)(ho:w'.ownsRow lo 100 2 (.slice (some ⟨g,0,none⟩) m c) m (bK xs))(hm:m=xs.length)(hg:w.heap.size<=g):
 eH w' lo {v with gB:=g,cB:=c} {r with back:=xs}:=by
 have l:=h.lts;have k:=h.keep hk;subst hm;exact⟨k.rc,k.wt,ho,k.lg,by have:=h.ap;simp only;omega⟩
theorem eH.appB {m g c:Nat}{x:bH}(h:eH w lo v r)(hg:w.grownBy w' (some v.gB))(ho:w'.ownsRow lo 100 2 (.slice (some ⟨g,0,none⟩) m c) m (bK r.back++x.cells))(hm:m=r.back.length+1)(hw:g=v.gB\/w.heap.size<=g):
 eH w' lo {v with gB:=g,cB:=c} {r with back:=r.back++[x]}:=by
 have l:=h.lts;have a:=h.ap;subst hm;refine⟨h.rc.kept hg (.inr Ho),h.wt.kept hg (.inr Ho),?_,h.lg.kept hg (.inr Ho),by simp only;omega⟩;have e:bK (r.back++[x])=bK r.back++x.cells:=zqn _ _
 grind
theorem eH.appR {m g c:Nat}{x:bO}(h:eH w lo v r)(hg:w.grownBy w' (some v.gR))(ho:w'.ownsRow lo 50 7 (.slice (some ⟨g,0,none⟩) m c) m (recs r.recs++x.cells))(hm:m=r.recs.length+1)(hw:g=v.gR\/w.heap.size<=g):
 eH w' lo {v with gR:=g,cR:=c} {r with recs:=r.recs++[x]}:=by
 have l:=h.lts;have a:=h.ap;subst hm;refine⟨?_,h.wt.kept hg (.inr Ho),h.bk.kept hg (.inr Ho),h.lg.kept hg (.inr Ho),by simp only;omega⟩;have e:recs (r.recs++[x])=recs r.recs++x.cells:=by simp[recs]
 grind
theorem eH.appL {m g c:Nat}{x:List UInt8}(h:eH w lo v r)(hg:w.grownBy w' (some v.gL))(ho:w'.ownsRow lo 9 1 (.slice (some ⟨g,0,none⟩) m c) m (wF r.log++[.string ⟨x.toArray⟩]))(hm:m=r.log.length+1)(hw:g=v.gL\/w.heap.size<=g):
 eH w' lo {v with gL:=g,cL:=c} {r with log:=r.log++[x]}:=by
 have l:=h.lts;have a:=h.ap;subst hm;refine⟨h.rc.kept hg (.inr Ho),h.wt.kept hg (.inr Ho),h.bk.kept hg (.inr Ho),?_,by simp only;omega⟩;have e:wF (r.log++[x])=wF r.log++[.string ⟨x.toArray⟩]:=by simp[wF,txt]
 grind
end
variable {rs:List bO}{i:Nat}{v:aF}
theorem zqP {j:Nat}{f:bO->bO}(hd:rs[i]? =some d)(hj:j<7)(hs:∀k,k<7->k≠j->(f d).cells[k]? =d.cells[k]?)(hv:(f d).cells[j]? =some v):(recs rs).set (i*7+j) v=recs (rs.modify i f):=by
 apply zjM;intro q;obtain⟨a,b,rfl,hb⟩:∃a b,q=a*7+b/\b<7:=⟨q/7,q%7,aC,aC⟩;have g:∀(l:List bO),(recs l)[a*7+b]? =(l[a]?).bind λx=>x.cells[b]? :=λl=>Ov bO.cells (s:=7) (λ_=>rfl) l a b hb;rw[List.getElem?_set,g,g,Iz];have hlen:(recs rs).length=rs.length*7:=zqd rs
 grind
theorem zAQ (l:Int)(h:rs[k]? =some d):sC (rs.take (k+1)) l=(sC (rs.take k) l||(d.l==l&&cU d)):=by
 unfold sC;rw[De,h];simp[List.any_append]
theorem zFp (rs:List bO)(n:Nat):yL rs (n+1)=yL rs n++(if sC rs ((n:Int)+1) then[] else[(n:Int)+1]):=by
 unfold yL;rw[List.range_succ,List.map_append,Qt];congr 1;simp only[jO,uN,zwQ,List.filter_nil];cases sC rs ((n:Int)+1)<;>simp
theorem zke (rs:List bO)(n:Nat):(yL rs n).length<=n:=by
 unfold yL;exact eE (zdA _ _) aQ
theorem zG9 (xs:List Int)(x:Int):fN (xs++[x])=fN xs++[.int .i64 x]:=by simp[fN]
def zJj:(aK.info? 3).map (λi=>(i.zero,i.size,i.bytes))=some (some (.int .i64 0),1,8):=aU
def Aa {o:fG}(h:qQ o=true):1<=o.ln/\o.ln<=6/\1<=o.op/\o.op<=4/\1<=o.pt/\o.pt<=60:=of_decide_eq_true h
theorem zvN (lo:Nat)(v:fW)(r:b6)(w:aE)(h:eH w lo v r)(hn:r.recs.length<=100000)(ho:qQ r.o=true):
 gT aK 90 #[.agg (fV v r)] w λe w'=>∃x,e=.returned x/\zi4 3 1 w (oX r.o r.recs).length (fN (oX r.o r.recs)) x w':=by
 obtain⟨i0,eY,fM,dF,hY⟩:=C8 zJj;have HI:=aD (And.intro eY (And.intro fM (And.intro dF hY)));clear eY fM dF hY;obtain⟨l0,l1,-,-,-,-⟩:=Aa ho;have hs:=h.slcR;obtain⟨n,C6⟩:=aN r.recs.length;have zGQ:n<=100000:=aC;have HN:=aD C6;obtain⟨rs,zef⟩:=aN r.recs;have zJA:=aD zef;obtain⟨gb,fA⟩:=aN w.heap.size;have fZ:=aD fA;obtain⟨ln,Af⟩:=aN r.o.ln;have zpb:=aD Af;obtain⟨m,hm⟩:=aN (ln.toNat:Nat);have Yp:ln=(m:Int):=aC;obtain⟨O,hO⟩:=aN (.cells (fV v r) 59:qN);have lR:(w.alloc O).heap[gb]? =some (yJ v r):=by rw[hO,fA];exact gV _ _
 have B0:cH w.heap.size w (w.alloc O):=eK (gD _ _) O;have hz:(w.alloc O).heap.size=gb+1:=by rw[fA];simp
 have hF:oX r.o r.recs=yL rs m:=by unfold oX;rw[<-Af,<-zef,<-hm]
 have HF:=aD hF;have Z9:=aI lR 0;rw[<-C6,<-zef] at hs;have zEv:=aD lR;have Ra:=aD B0;have HZ:=aD hz;rw[<-Af] at l0 l1;clear hF C6 zef fA Af hm h Z9;have HO:=aD hO;have zzv:=aD Yp;rw[Yp] at l0 l1;clear hO lR B0 hz
 go_enter Tryz.func90,Tryz.ntmps90
 go_wp2_with fail
 rw[<-HO.o]
 go_loopw [3,4] (λx i wr=>∃(k g L cl:Nat),k<=m/\i=.int .i64 ((k:Int)+1)/\L=(yL rs k).length/\x=.slice (some ⟨g,0,none⟩) L cl/\cH (gb+1) (w.alloc O) wr/\wr.ownsRow (gb+1) 3 1 (.slice (some ⟨g,0,none⟩) L cl) L (fN (yL rs k))) (λ_ i _=>1000-(intOf i).toNat)
 case atStart=>
  have hz:=HZ.o;refine⟨0,gb+1,0,0,lU _,aQ,rfl,by rw[fZ.o],?_,Md (bM _) (l6 _ _ hz.symm)⟩;rw[<-hz];exact eK (gD _ _) _
 case round=>
  obtain⟨k,g,L,cl,hk,rfl,hL,rfl,B,cY⟩:=hrel;have HL:=aD hL;have Jb:=aD cY;have HB:=aD B;have zoV:=B.size;have hz:=HZ.o;have rK:=(B.block gb aC).trans zEv.o;have e0:=aI rK 0;have e4:=aI rK 4;have hlen:=zke rs k;rw[<-hL] at hlen;have Hr:=hs.below (Ra.o.trans (B.mono uB));have Yo:wr.cell? ⟨w.heap.size,0,none⟩=some (.int .i64 (m:Int)):=by rw[<-fZ.o,e0,<-zzv.o,zpb.o];rfl
  have zLw:wr.cell? ⟨w.heap.size,4,none⟩=some (.slice (some ⟨v.gR,0,none⟩) n v.cR):=by rw[<-fZ.o,e4,HN.o];rfl
  have zff:=aD (zFp rs k);have zFT:=aD Hr.recLen;clear hL cY e0 e4 rK B hz hs;by_cases aT:k<m
  .obtain⟨l,hl⟩:=aN ((k:Int)+1:Int)
   have zfR:1<=l:=aC;have zx0:l<=(m:Int):=aC;rw[<-hl] at zff⊢;have zga:=aD hl;clear hl
   go_wp2_with fail
   go_loop [5,6] (λu i=>∃j:Nat,j<=n/\u=.bool (sC (rs.take j) l)/\i=.int .i64 j) (λ_ i=>n-(intOf i).toNat)
   case atStart=>exact⟨0,lU _,rfl,rfl⟩
   case round=>
    obtain⟨j,hj,rfl,rfl⟩:=hrel;by_cases zHi:j<n
    .obtain⟨b,off,d,hA,_,_,h3,eR,gZ,pS,Cf,Ih,Iw,oA,zfY⟩:=Hr.rec7 zHi
     have HU:=aD (zAQ l eR);have i0:(0:Int)<=(j:Int):=aC;have i1:(j:Int)<(n:Int):=aC;injection hA with hA;injection hA with Bj Bg;subst Bj Bg;simp only[qV] at pS zfY;clear eR Hr gZ Cf Ih Iw oA h3;cases hu:sC (rs.take j) l
     .rw[hu] at HU
      cases hq:(d.l==l)
      .have Fp:=aD (show sC (rs.take (j+1)) l=false by rw[HU.o,hq];rfl)
       go_wp2
       go_round
       case rel=>exact⟨j+1,aC,by rw[Fp.o],nE⟩
       case measure=>simp[intOf];omega
      .cases hd:(d.e.toList==[111,112,101,110])
       .have Fp:=aD (show sC (rs.take (j+1)) l=false by rw[HU.o,hq];unfold cU;rw[hd];rfl)
        go_wp2
        go_round
        case rel=>exact⟨j+1,aC,by rw[Fp.o],nE⟩
        case measure=>simp[intOf];omega
       .have Fp:=aD (show sC (rs.take (j+1)) l=true by rw[HU.o,hq];unfold cU;rw[hd];rfl)
        go_wp2
        go_round
        case rel=>exact⟨j+1,aC,by rw[Fp.o],nE⟩
        case measure=>simp[intOf];omega
     .rw[hu] at HU
      have Fp:=aD (show sC (rs.take (j+1)) l=true by rw[HU.o];rfl);clear pS zfY;go_wp2
      go_round
      case rel=>exact⟨j+1,aC,by rw[Fp.o],nE⟩
      case measure=>simp[intOf];omega
    .have e:j=n:=aC
     subst e;have HT:=aD (show rs.take j=rs by rw[El (by rw[zFT.o];exact bM _)]);rw[HT.o];clear Hr;obtain⟨u,hu⟩:=aN (sC rs l);rw[<-hu] at zff⊢;clear hu;cases u
     .have Fp:=aD (show yL rs (k+1)=yL rs k++[l] by rw[zff.o];rfl)
      obtain⟨eY,fM,dF,hY⟩:=HI.o;have HH:=aD eY;have zeA:=HZ.o;clear eY
      go_wp2_with (at_builtin;refine zln _ rfl (.tmp 44) (.tmp 46) 38 rfl (gb+1) 3 i0 (.int .i64 0) 1 8 Tryz.underlying38 HH.o fM dF hY rfl aH (.slice (some ⟨g,0,none⟩) L cl) L (fN (yL rs k)) rfl (Bm Jb.o ?c1) aQ ⟨_,0,none⟩ 1 1 [.int .i64 l] rfl rfl ?c2 Lz ?c5 ?c6 ?c7 ?_;(case c1=>exact λb hb=>qA _ _ b hb);(case c2=>exact Ez (cs:=#[.int .i64 l]) (l6 _ _ aQ));(case c5=>unfold maxLen;omega);(case c6=>omega);(case c7=>(simp;omega));intro g1 c1 w1 qZ qJ B1;have Ah:=aD qZ;have jN:=aD B1;clear qZ qJ B1)
      go_roundw
      case rel=>
       refine⟨k+1,g1,L+1,c1,aC,by rw[zga.o];push_cast;rfl,by rw[Fp.o,HL.o];simp,rfl,?_,?_⟩
       .have b1:=HB.o
        exact(b1.alloc aC _).trans jN.o
       .rw[Fp.o,zG9];exact Ah.o
      case measure=>have:=zga.o;simp[intOf];omega
     .have Fp:=aD (show yL rs (k+1)=yL rs k by rw[zff.o];simp)
      go_wp2;go_roundw
      case rel=>exact⟨k+1,g,L,cl,aC,by rw[zga.o];push_cast;rfl,by rw[Fp.o];exact HL.o,rfl,HB.o,by rw[Fp.o];exact Jb.o⟩
      case measure=>have:=zga.o;simp[intOf];omega
  .have e:k=m:=aC
   subst e;clear Hr;go_wp2;go_ret;refine⟨_,rfl,g,cl,by rw[HF.o,<-HL.o];rfl,?_,Ra.o.trans (HB.o.mono (by have:=fZ.o;omega))⟩;rw[HF.o,<-HL.o];obtain⟨h1,h2⟩:=Jb.o;refine⟨h1,h2.imp id λ⟨b,cap,cur,e1,e2,e3⟩=>⟨b,cap,cur,e1,by have:=fZ.o;omega,e3⟩⟩
variable {xs:List aF}{s:Nat}
theorem cJ.takeS {g:Nat}(h:cJ w lo hi s (some ⟨g,0,none⟩) n c xs)(hk:k<=n):cJ w lo hi s (some ⟨g,0,none⟩) k c (xs.take (k*s)):=by
 refine⟨by rw[rU,h.len];exact Nat.min_eq_left (Nat.mul_le_mul_right _ hk),eE hk h.le,h.cap,λh0=>?_⟩;obtain⟨b,off,e,h1,h2,h3,h4⟩:=h.at_ aC;refine⟨b,off,e,h1,h2,h3,λj v hv=>h4 j v ?_⟩;rw[List.getElem?_take] at hv;split at hv
 .exact hv
 .cases hv
theorem cJ.dropS {g:Nat}(h:cJ w lo hi s (some ⟨g,0,none⟩) n c xs)(hk:k<=n):cJ w lo hi s (some ⟨g,k*s,none⟩) (n-k) (c-k) (xs.drop (k*s)):=by
 refine⟨by rw[zC,h.len,Nat.sub_mul],by have:=h.le;omega,by have:=h.cap;omega,λh0=>?_⟩;obtain⟨b,off,e,h1,h2,h3,h4⟩:=h.at_ aC;injection e with e;injection e with e1 e2;subst e1 e2;refine⟨g,k*s,rfl,h1,h2,h3,λj v hv=>?_⟩;rw[List.getElem?_drop] at hv;have:=h4 (k*s+j) v hv
 rwa [qV] at this
theorem cJ.dropI {g:Nat}(h:cJ w lo hi s (some ⟨g,0,none⟩) n c xs)(hk:k<=n):cJ w lo hi s (if c=k then some ⟨g,0,none⟩ else some ⟨g,k*s,none⟩) (n-k) (c-k) (xs.drop (k*s)):=by
 have d:=h.dropS hk;by_cases e:c=k
 .rw[if_pos e]
  exact⟨d.len,d.le,d.cap,λh0=>by have:=h.le;omega⟩
 .simp_all
theorem zxL (xs:List bH)(k:Nat):(bK xs).take (k*2)=bK (xs.take k):=by
 induction xs generalizing k with
 |nil=>simp[bK]
 |cons x xs ih=>
  cases k with
  |zero=>simp[bK]
  |succ k=>
   have e:(k+1)*2=k*2+1+1:=aC;rw[e];simp only[bK,znh,bH.cells,U8,zd4,List.take_succ_cons];have:=ih k;unfold bK at this;rw[this]
theorem zpm (xs:List bH)(k:Nat):(bK xs).drop (k*2)=bK (xs.drop k):=by
 induction xs generalizing k with
 |nil=>simp[bK]
 |cons x xs ih=>
  cases k with
  |zero=>simp[bK]
  |succ k=>
   have e:(k+1)*2=k*2+1+1:=aC;rw[e];simp only[bK,znh,bH.cells,U8,zd4,List.drop_succ_cons];have:=ih k;unfold bK at this;rw[this]
theorem zxg (xs ys:List bH):bK (xs++ys)=bK xs++bK ys:=by simp[bK]
theorem Yy (xs:List bH):∀u∈bK xs,u.oneCell'=true:=by
 intro u hu;obtain⟨d,_,hd⟩:=List.mem_flatMap.1 hu;simp only[bH.cells,List.mem_cons,List.not_mem_nil,or_false] at hd;rcases hd with rfl|rfl<;>rfl
theorem zpe {xs:List bH}{x:bH}(hk:k<=xs.length)(h:∀j,j<k->∀b,xs[j]? =some b->x.p<=b.p)(hn:∀b,xs[k]? =some b->¬x.p<=b.p):tJ xs x=xs.take k++x::xs.drop k:=by
 unfold tJ
 induction xs generalizing k with
 |nil=>simp
 |cons y ys ih=>
  cases k with
  |zero=>simp_all
  |succ k=>
   have hy:=h 0 aC y rfl;have:=ih (k:=k) (by simpa using hk) (λj hj b hb=>h (j+1) aC b zcP) (λb hb=>hn b zcP);simp[List.takeWhile_cons,List.dropWhile_cons,hy,this]
def zeL {W:aE}(h:W.cell? a1=some v1/\W.cell? a2=some v2/\cH W0.heap.size W0 W):cH W0.heap.size W0 W:=h.2.2
variable {u:aF}
def zsW {a b:bC}(h:w.cell? a=some u)(k:w.cell? b=some v):w.cell? a=some u/\w.cell? b=some v:=⟨h,k⟩
theorem zHV (lo hi n c g:Nat)(xs:List bH)(x:bH)(w:aE)(h:cJ w lo hi 2 (some ⟨g,0,none⟩) n c (bK xs))(hn:n<=100000):
 gT aK 93 #[.slice (some ⟨g,0,none⟩) n c,.agg #[.int .i64 x.c,.int .i64 x.p]] w λe w'=>∃v,e=.returned v/\zi4 100 2 w (tJ xs x).length (bK (tJ xs x)) v w':=by
 have hl:=aD h.callsLen;have ztu:=aD h.le;obtain⟨i0,eY,fM,dF,hY⟩:=C8 zeT;have HI:=aD (And.intro eY (And.intro fM (And.intro dF hY)));clear eY fM dF hY;obtain⟨gb,fA⟩:=aN w.heap.size;have fZ:=aD fA;obtain⟨O,hO⟩:=aN (.cells #[.int .i64 x.c,.int .i64 x.p] 100:qN);have lR:(w.alloc O).heap[gb]? =some (.cells #[.int .i64 x.c,.int .i64 x.p] 100):=by rw[hO,fA];exact gV _ _
 have Ab:=aD lR;have Ra:=aD (eK (gD w.heap.size w) O);have HO:=aD hO;clear fA hO lR
 go_enter Tryz.func93,Tryz.ntmps93
 go_wp2_with fail
 rw[<-HO.o,<-fZ.o]
 go_loopw [5] (λi wr=>∃k:Nat,k<=n/\i=.int .i64 k/\cH (w.alloc O).heap.size (w.alloc O) wr/\∀j,j<k->∀b,xs[j]? =some b->x.p<=b.p) (λi _=>n-(intOf i).toNat)
 case atStart=>exact⟨0,lU _,rfl,gD _ _,λj hj=>absurd hj aC⟩
 case round=>
  obtain⟨k,hk,rfl,B,gS⟩:=hrel;have HC:=aD gS;have kg:=(mU B Ab.o).1;have zg:=(mU B Ab.o).2;have e0:=aI kg 0;have e1:=aI kg 1;have BW:=Ra.o.trans (B.mono Ra.o.size);have hs:=h.below BW;have zzk:(0:Int)<=(k:Int):=aC;have Lu:=aD BW;have HB:=aD B;clear gS kg BW B;by_cases aT:k<n
  .obtain⟨b,off,d,hA,_,_,h3,eR,gZ,pS⟩:=hs.callsAt aT
   injection hA with hA;injection hA with Bj Bg;subst Bj Bg;simp only[qV] at gZ pS;have HX:=aD eR;have i1:(k:Int)<(n:Int):=aC;by_cases hp:x.p<=d.p
   .have HP:=aD hp
    have zBx:decide (x.p<=d.p)=true:=decide_eq_true hp;clear eR h hs h3 gZ hp
    go_wp2_with fail
    go_quiet (fail)
    go_wp2;go_roundw
    case rel=>exact⟨k+1,aC,nE,⟨HB.o.os,HB.o.tape,HB.o.output,HB.o.size,HB.o.block⟩,λj hj b hb=>by
     by_cases e:j=k
     .subst e;rw[HX.o] at hb;injection hb with hb;exact hb▸HP.o
     .exact HC.o j aC b hb⟩
    case measure=>simp[intOf];omega
   .have HQ:=aD (zpe (x:=x) (k:=k) tV HC.o (λb hb=>by simp_all))
    have zBx:decide (x.p<=d.p)=false:=decide_eq_false hp;clear eR h3 gZ hp
    go_wp2_with fail
    go_quiet (fail)
    go_wp2_with fail
    obtain⟨wq,tH⟩:=aN (wr.drewN nq);rw[<-tH];replace hs:cJ wq lo hi 2 (some ⟨g,0,none⟩) n c (bK xs):=by rw[tH];exact⟨hs.len,hs.le,hs.cap,hs.at_⟩
    replace e0:wq.cell? ⟨gb,0,none⟩=some (.int .i64 x.c):=by rw[tH];exact e0
    replace e1:wq.cell? ⟨gb,1,none⟩=some (.int .i64 x.p):=by rw[tH];exact e1
    replace zg:gb<wq.heap.size:=by rw[tH];exact zg
    have zck:=aD (show cH w.heap.size w wq by rw[tH];exact⟨Lu.o.os,Lu.o.tape,Lu.o.output,Lu.o.size,Lu.o.block⟩);have zFL:=aD (show wr.heap.size<=wq.heap.size by simp_all);clear tH;have HN:=aD (bM wq.heap.size);have Ga:=aD (zxL xs k▸hs.takeS hk);have Tx:=aD (zpm xs k▸hs.dropI hk);have zrS:=aD zg;obtain⟨eY,fM,dF,hY⟩:=HI.o;have HH:=aD eY;have nJ:=ztu.o;have zcs:=aD (zsW e0 e1);have k1:(k:Int)<=(n:Int):=aC;have k2:(n:Int)<=(c:Int):=aC;have k3:(k:Int)<=(c:Int):=aC;clear eY hs h
    go_region_held3 (λW=>W.cell? ⟨gb,0,none⟩=some (.int .i64 x.c)/\W.cell? ⟨gb,1,none⟩=some (.int .i64 x.p)/\cH wq.heap.size wq W)
     ((refine zq0 zgn zgn zcs.o.1 zcs.o.2 ?_;(repeat' (first|with_reducible assumption|with_reducible exact zeL zf2|with_reducible exact gD _ _|with_reducible apply eK|with_reducible apply zgi));done))
     (first
      |(refine zfa _ rfl (.tmp 22) (.tmp 25) 57 rfl wq.heap.size 100 i0 (.agg #[.int .i64 0,.int .i64 0]) 2 16 M5 HH.o fM dF hY rfl aH _ 0 0 [] rfl (Md ?c1 ?c2) (some ⟨g,0,none⟩) k c _ _ (bK (xs.take k)) rfl (Ga.o.below ?c3) (Yy _) ?c5 ?c6 ?c7 ?_;(case c1=>first|omega|(simp;done)|(simp;omega));(case c2=>((try with_reducible apply Ku);(first|with_reducible assumption|(with_reducible refine l6 _ _ ?_;simp)|(with_reducible refine dH ?_ _;first|with_reducible assumption|(with_reducible refine l6 _ _ ?_;simp))|(with_reducible refine dH ?_ _;with_reducible refine dH ?_ _;first|with_reducible assumption|(with_reducible refine l6 _ _ ?_;simp))|(with_reducible refine dH ?_ _;with_reducible refine dH ?_ _;with_reducible refine dH ?_ _;first|with_reducible assumption|(with_reducible refine l6 _ _ ?_;simp)))));(case c3=>(repeat' (first|with_reducible assumption|with_reducible exact zeL zf2|with_reducible exact gD _ _|with_reducible apply eK|with_reducible apply zgi)));(case c5=>unfold maxLen;omega);(case c6=>omega);(case c7=>first|omega|(simp;done)|(simp;omega));intro g1 zkl w9 qZ qJ B1;rw[qV];simp only[qV,zd4] at qZ;have Ah:=aD qZ;have pB:=aD qJ;have BW:cH wq.heap.size wq w9:=cH.trans uB B1;have z9:=BW.size;clear qZ qJ B1)
      |(refine zxm _ rfl (.tmp 26) (.tmp 28) 57 rfl wq.heap.size 100 i0 (.agg #[.int .i64 0,.int .i64 0]) 2 16 M5 HH.o fM dF hY rfl aH (.slice (some ⟨g1,0,none⟩) k zkl) k (bK (xs.take k)) rfl ?c1 aQ ⟨_,0,none⟩ 1 1 [.int .i64 x.c,.int .i64 x.p] rfl rfl (Ez (cs:=#[.int .i64 x.c,.int .i64 x.p]) (t:=100) (fr:=(0,0)) ?c2) (by simp[zuO]) ?c5 ?c6 ?c7 ?_;(case c1=>first|exact Ah.o|exact Bm Ah.o (λb hb=>qA _ _ b hb));(case c2=>first|exact gV _ _|exact(pB.o.block _ zeC zxq).trans (by((try with_reducible apply Ku);(first|with_reducible assumption|(with_reducible refine l6 _ _ ?_;simp)|(with_reducible refine dH ?_ _;first|with_reducible assumption|(with_reducible refine l6 _ _ ?_;simp))|(with_reducible refine dH ?_ _;with_reducible refine dH ?_ _;first|with_reducible assumption|(with_reducible refine l6 _ _ ?_;simp))|(with_reducible refine dH ?_ _;with_reducible refine dH ?_ _;with_reducible refine dH ?_ _;first|with_reducible assumption|(with_reducible refine l6 _ _ ?_;simp))))));(case c5=>unfold maxLen;omega);(case c6=>omega);(case c7=>first|omega|(simp;done)|(simp;omega));intro g2 zlX wO zcY ziW B2;have zaU:=aD zcY;have Uu:cH wq.heap.size wq wO:=cH.trans (by first|exact BW|exact eK BW _) B2;have zCO:=Uu.size;clear zcY ziW B2)
      |(refine zfa _ rfl (.tmp 29) (.tmp 32) 57 rfl wq.heap.size 100 i0 (.agg #[.int .i64 0,.int .i64 0]) 2 16 M5 HH.o fM dF hY rfl aH g2 (k+1) zlX (bK (xs.take k)++[.int .i64 x.c,.int .i64 x.p]) rfl zaU.o (if c=k then some ⟨g,0,none⟩ else some ⟨g,k*2,none⟩) (n-k) (c-k) _ _ (bK (xs.drop k)) rfl (Tx.o.below Uu) (Yy _) ?c5 ?c6 ?c7 ?_;(case c5=>unfold maxLen;omega);(case c6=>omega);(case c7=>first|omega|(simp;done)|(simp;omega));intro g3 zmv wR zb2 zoh B3;have Y9:=aD zb2;have zcD:cH wq.heap.size wq wR:=Uu.trans B3;have zz2:=zcD.size;clear zb2 zoh B3))
    all_goals go_wp2_with fail
    all_goals go_ret
    all_goals
     have zeA:=zck.o.size;have eQ:(tJ xs x).length=k+1+(n-k):=by
      rw[HQ.o,j5,rU,uV,zC,hl.o];omega
     refine⟨_,rfl,g3,zmv,?_,?_,zck.o.trans (zcD.mono zeA)⟩
     .rw[eQ];rfl
     .obtain⟨h1,h2⟩:=Y9.o
      have e:=eQ;have e2:bK (tJ xs x)=bK (xs.take k)++[.int .i64 x.c,.int .i64 x.p]++bK (xs.drop k):=by rw[HQ.o,zxg];simp[bK,bH.cells]
      rw[e,e2];exact⟨h1,h2.imp id λ⟨b,cap,cur,e1,e2,e3⟩=>⟨b,cap,cur,e1,aC,e3⟩⟩
  .have HQ:=aD (zpe (x:=x) (k:=k) (by rw[hl.o];exact hk) HC.o (λb hb=>by rw[List.getElem?_eq_none (by rw[hl.o];omega)] at hb;cases hb))
   have oI:decide ((k:Int)<(n:Int))=false:=decide_eq_false aC
   go_wp2_with fail
   go_quiet (fail)
   go_wp2_with fail
   obtain⟨wq,tH⟩:=aN (wr.drewN nq);rw[<-tH];replace hs:cJ wq lo hi 2 (some ⟨g,0,none⟩) n c (bK xs):=by rw[tH];exact⟨hs.len,hs.le,hs.cap,hs.at_⟩
   replace e0:wq.cell? ⟨gb,0,none⟩=some (.int .i64 x.c):=by rw[tH];exact e0
   replace e1:wq.cell? ⟨gb,1,none⟩=some (.int .i64 x.p):=by rw[tH];exact e1
   replace zg:gb<wq.heap.size:=by rw[tH];exact zg
   have zck:=aD (show cH w.heap.size w wq by rw[tH];exact⟨Lu.o.os,Lu.o.tape,Lu.o.output,Lu.o.size,Lu.o.block⟩);have zFL:=aD (show wr.heap.size<=wq.heap.size by simp_all);clear tH;have HN:=aD (bM wq.heap.size);have Ga:=aD (zxL xs k▸hs.takeS hk);have Tx:=aD (zpm xs k▸hs.dropI hk);have zrS:=aD zg;obtain⟨eY,fM,dF,hY⟩:=HI.o;have HH:=aD eY;have nJ:=ztu.o;have zcs:=aD (zsW e0 e1);have k1:(k:Int)<=(n:Int):=aC;have k2:(n:Int)<=(c:Int):=aC;have k3:(k:Int)<=(c:Int):=aC;clear eY hs h
   go_region_held3 (λW=>W.cell? ⟨gb,0,none⟩=some (.int .i64 x.c)/\W.cell? ⟨gb,1,none⟩=some (.int .i64 x.p)/\cH wq.heap.size wq W)
    ((refine zq0 zgn zgn zcs.o.1 zcs.o.2 ?_;(repeat' (first|with_reducible assumption|with_reducible exact zeL zf2|with_reducible exact gD _ _|with_reducible apply eK|with_reducible apply zgi));done))
    (first
     |(refine zfa _ rfl (.tmp 22) (.tmp 25) 57 rfl wq.heap.size 100 i0 (.agg #[.int .i64 0,.int .i64 0]) 2 16 M5 HH.o fM dF hY rfl aH _ 0 0 [] rfl (Md ?c1 ?c2) (some ⟨g,0,none⟩) k c _ _ (bK (xs.take k)) rfl (Ga.o.below ?c3) (Yy _) ?c5 ?c6 ?c7 ?_;(case c1=>first|omega|(simp;done)|(simp;omega));(case c2=>((try with_reducible apply Ku);(first|with_reducible assumption|(with_reducible refine l6 _ _ ?_;simp)|(with_reducible refine dH ?_ _;first|with_reducible assumption|(with_reducible refine l6 _ _ ?_;simp))|(with_reducible refine dH ?_ _;with_reducible refine dH ?_ _;first|with_reducible assumption|(with_reducible refine l6 _ _ ?_;simp))|(with_reducible refine dH ?_ _;with_reducible refine dH ?_ _;with_reducible refine dH ?_ _;first|with_reducible assumption|(with_reducible refine l6 _ _ ?_;simp)))));(case c3=>(repeat' (first|with_reducible assumption|with_reducible exact zeL zf2|with_reducible exact gD _ _|with_reducible apply eK|with_reducible apply zgi)));(case c5=>unfold maxLen;omega);(case c6=>omega);(case c7=>first|omega|(simp;done)|(simp;omega));intro g1 zkl w9 qZ qJ B1;rw[qV];simp only[qV,zd4] at qZ;have Ah:=aD qZ;have pB:=aD qJ;have BW:cH wq.heap.size wq w9:=cH.trans uB B1;have z9:=BW.size;clear qZ qJ B1)
     |(refine zxm _ rfl (.tmp 26) (.tmp 28) 57 rfl wq.heap.size 100 i0 (.agg #[.int .i64 0,.int .i64 0]) 2 16 M5 HH.o fM dF hY rfl aH (.slice (some ⟨g1,0,none⟩) k zkl) k (bK (xs.take k)) rfl ?c1 aQ ⟨_,0,none⟩ 1 1 [.int .i64 x.c,.int .i64 x.p] rfl rfl (Ez (cs:=#[.int .i64 x.c,.int .i64 x.p]) (t:=100) (fr:=(0,0)) ?c2) (by simp[zuO]) ?c5 ?c6 ?c7 ?_;(case c1=>first|exact Ah.o|exact Bm Ah.o (λb hb=>qA _ _ b hb));(case c2=>first|exact gV _ _|exact(pB.o.block _ zeC zxq).trans (by((try with_reducible apply Ku);(first|with_reducible assumption|(with_reducible refine l6 _ _ ?_;simp)|(with_reducible refine dH ?_ _;first|with_reducible assumption|(with_reducible refine l6 _ _ ?_;simp))|(with_reducible refine dH ?_ _;with_reducible refine dH ?_ _;first|with_reducible assumption|(with_reducible refine l6 _ _ ?_;simp))|(with_reducible refine dH ?_ _;with_reducible refine dH ?_ _;with_reducible refine dH ?_ _;first|with_reducible assumption|(with_reducible refine l6 _ _ ?_;simp))))));(case c5=>unfold maxLen;omega);(case c6=>omega);(case c7=>first|omega|(simp;done)|(simp;omega));intro g2 zlX wO zcY ziW B2;have zaU:=aD zcY;have Uu:cH wq.heap.size wq wO:=cH.trans (by first|exact BW|exact eK BW _) B2;have zCO:=Uu.size;clear zcY ziW B2)
     |(refine zfa _ rfl (.tmp 29) (.tmp 32) 57 rfl wq.heap.size 100 i0 (.agg #[.int .i64 0,.int .i64 0]) 2 16 M5 HH.o fM dF hY rfl aH g2 (k+1) zlX (bK (xs.take k)++[.int .i64 x.c,.int .i64 x.p]) rfl zaU.o (if c=k then some ⟨g,0,none⟩ else some ⟨g,k*2,none⟩) (n-k) (c-k) _ _ (bK (xs.drop k)) rfl (Tx.o.below Uu) (Yy _) ?c5 ?c6 ?c7 ?_;(case c5=>unfold maxLen;omega);(case c6=>omega);(case c7=>first|omega|(simp;done)|(simp;omega));intro g3 zmv wR zb2 zoh B3;have Y9:=aD zb2;have zcD:cH wq.heap.size wq wR:=Uu.trans B3;have zz2:=zcD.size;clear zb2 zoh B3))
   all_goals go_wp2_with fail
   all_goals go_ret
   all_goals
    have zeA:=zck.o.size;have eQ:(tJ xs x).length=k+1+(n-k):=by
     rw[HQ.o,j5,rU,uV,zC,hl.o];omega
    refine⟨_,rfl,g3,zmv,?_,?_,zck.o.trans (zcD.mono zeA)⟩
    .rw[eQ];rfl
    .obtain⟨h1,h2⟩:=Y9.o
     have e:=eQ;have e2:bK (tJ xs x)=bK (xs.take k)++[.int .i64 x.c,.int .i64 x.p]++bK (xs.drop k):=by rw[HQ.o,zxg];simp[bK,bH.cells]
     rw[e,e2];exact⟨h1,h2.imp id λ⟨b,cap,cur,e1,e2,e3⟩=>⟨b,cap,cur,e1,aC,e3⟩⟩
theorem zfy (l:List α)(i:Nat)(f g:α->α):(l.modify i f).modify i g=l.modify i (λx=>g (f x)):=by
 apply zjM;intro j;rw[Iz,Iz,Iz];by_cases e:i=j
 .simp[e,Function.comp_def]
 .simp[e]
variable {v:fW}{r:b6}
theorem eH.setR {j:Nat}(f:bO->bO)(h:eH w lo v r)(hd:r.recs[i]? =some d)(hj:j<7)(hs:∀k,k<7->k≠j->(f d).cells[k]? =d.cells[k]?)(hv:(f d).cells[j]? =some u):
 eH (w.setCell ⟨v.gR,i*7+j,none⟩ u) lo v {r with recs:=r.recs.modify i f}/\o6 v w (w.setCell ⟨v.gR,i*7+j,none⟩ u):=by
 obtain⟨h1,hg⟩:=h.rc.stored (i*7+j) u;rw[zqP hd hj hs hv] at h1;have a:=h.ap;refine⟨⟨?_,h.wt.kept hg (.inr Ho),h.bk.kept hg (.inr Ho),h.lg.kept hg (.inr Ho),a⟩,⟨hg.os,hg.tape,hg.output,hg.size,λb hb h1 _=>hg.block b hb (λe=>h1 (by injection e))⟩⟩;simp only[fW.sR,Nv];exact h1
theorem eH.recAt (h:eH w lo v r)(hd:r.recs[i]? =some d):
 w.cell? ⟨v.gR,i*7,none⟩=some (.int .i64 d.c)/\w.cell? ⟨v.gR,i*7+1,none⟩=some (.int .i64 d.l)/\w.cell? ⟨v.gR,i*7+2,none⟩=some (.int .i64 d.o)/\w.cell? ⟨v.gR,i*7+3,none⟩=some (.int .i64 d.f)/\w.cell? ⟨v.gR,i*7+4,none⟩=some (.int .i64 d.h)/\w.cell? ⟨v.gR,i*7+5,none⟩=some (.int .i64 d.t)/\w.cell? ⟨v.gR,i*7+6,none⟩=some (.string d.e):=by
 have hi:=(lX.1 hd).1;have g:∀j,j<7->w.cell? ⟨v.gR,i*7+j,none⟩=d.cells[j]? :=λj hj=>by
  rw[h.rc.cellAt (i*7+j) aC];have:=Ov bO.cells (s:=7) (λ_=>rfl) r.recs i j hj;unfold recs;rw[this,hd];rfl
 exact⟨g 0 aH,g 1 aH,g 2 aH,g 3 aH,g 4 aH,g 5 aH,g 6 aH⟩
variable {b:Nat}{w':aE}
def o6.blk {o:qN}(h:o6 v w w')(hb:w.heap[b]? =some o)(h1:b≠v.gR)(h2:b≠v.gB):w'.heap[b]? =some o:=(h.block b (gM hb) h1 h2).trans hb
theorem Sx (h:rs[i]? =some d):Da rs i=d.c:=by unfold Da;rw[h]
theorem Bn {E:Nat}{base n g c:Nat}(h:w.ownsRow base E s (.slice (some ⟨g,0,none⟩) n c) n xs)(hb:w'.heap[g]? =w.heap[g]?):w'.ownsRow base E s (.slice (some ⟨g,0,none⟩) n c) n xs:=by
 obtain⟨hl,h|⟨b,cap,cur,e,h1,hg,h2⟩⟩:=h
 .cases h.1
 .injection e with e
  injection e with e;injection e with e;subst e;exact⟨hl,.inr ⟨g,cap,cur,by simp_all,h1,hb.trans hg,h2⟩⟩
def zjn {base base':Nat}{e:aM}{size:Nat}{v:aF}(h:w.ownsRow base e size v n xs)(hb:base'<=base):w.ownsRow base' e size v n xs:=
 ⟨h.1,h.2.imp id λ⟨g,cap,cur,h1,h2,h3⟩=>⟨g,cap,cur,h1,eE hb h2,h3⟩⟩
theorem zCS (v:fW)(r:b6)(i g cp:Nat)(e:ByteArray):(fV v r).setIfInBounds 5 (.slice (some ⟨g,0,none⟩) (dK r.wait (Da r.recs i)).length cp)=fV {v with gW:=g,cW:=cp} (lP r i e):=by
 have h:(lP r i e).recs.length=r.recs.length:=Nv _ _ _;simp only[fV,fW.sR,h];rfl
def gX (w:aE)(b:Nat)(a0 a1 a2 a3 a4 a5 a6 a7:aF):World:=(((((((w.setCell ⟨b,0,none⟩ a0).setCell ⟨b,1,none⟩ a1).setCell ⟨b,2,none⟩ a2).setCell ⟨b,3,none⟩ a3).setCell ⟨b,4,none⟩ a4).setCell ⟨b,5,none⟩ a5).setCell ⟨b,6,none⟩ a6).setCell ⟨b,7,none⟩ a7
variable {a1 a2 a0 a3 a4 a5 a6 a7:aF}{T:aM}
theorem zbc {z0 z1 z2 z3 z4 z5 z6 z7:aF}(h:w.heap[b]? =some (.cells #[z0,z1,z2,z3,z4,z5,z6,z7] T)):(gX w b a0 a1 a2 a3 a4 a5 a6 a7).heap[b]? =some (.cells #[a0,a1,a2,a3,a4,a5,a6,a7] T):=by
 unfold gX;rw[oK (oK (oK (oK (oK (oK (oK (oK h a0) a1) a2) a3) a4) a5) a6) a7];simp only[List.setIfInBounds_toArray,List.set_cons_zero,List.set_cons_succ]
theorem Ir {x:Nat}(h:x≠b):(gX w b a0 a1 a2 a3 a4 a5 a6 a7).heap[x]? =w.heap[x]? :=by
 unfold gX;rw[dX _ _ _ x h,dX _ _ _ x h,dX _ _ _ x h,dX _ _ _ x h,dX _ _ _ x h,dX _ _ _ x h,dX _ _ _ x h,dX _ _ _ x h]
theorem ziE (w:aE)(b:Nat)(a0 a1 a2 a3 a4 a5 a6 a7:aF):(gX w b a0 a1 a2 a3 a4 a5 a6 a7).heap.size=w.heap.size:=by
 unfold gX;simp only[xG]
def zhu (w:aE)(b:Nat)(a0 a1 a2 a3 a4 a5 a6 a7:aF):Chg b (b+1) w (gX w b a0 a1 a2 a3 a4 a5 a6 a7):=
 ((((((((Chg.refl b (b+1) w).setCell (p:=⟨b,0,none⟩) (bM _) (y4 _) a0).setCell (p:=⟨b,1,none⟩) (bM _) (y4 _) a1).setCell (p:=⟨b,2,none⟩) (bM _) (y4 _) a2).setCell (p:=⟨b,3,none⟩) (bM _) (y4 _) a3).setCell (p:=⟨b,4,none⟩) (bM _) (y4 _) a4).setCell (p:=⟨b,5,none⟩) (bM _) (y4 _) a5).setCell (p:=⟨b,6,none⟩) (bM _) (y4 _) a6).setCell (p:=⟨b,7,none⟩) (bM _) (y4 _) a7
def eH.set8 (h:eH w lo v r)(hb:b≠v.gR/\b≠v.gW/\b≠v.gB/\b≠v.gL):eH (gX w b a0 a1 a2 a3 a4 a5 a6 a7) lo v r:=
 ⟨Bn h.rc (Ir (Ne.symm hb.1)),Bn h.wt (Ir (Ne.symm hb.2.1)),Bn h.bk (Ir (Ne.symm hb.2.2.1)),Bn h.lg (Ir (Ne.symm hb.2.2.2)),h.ap⟩
def o6.set8 {w0:aE}(h:o6 v w0 w)(hb:w0.heap.size<=b):o6 v w0 (gX w b a0 a1 a2 a3 a4 a5 a6 a7):=
 have c:=zhu w b a0 a1 a2 a3 a4 a5 a6 a7
 ⟨c.os.trans h.os,c.tape.trans h.tape,c.output.trans h.output,eE h.size c.size,λx hx h1 h2=>(Ir aC).trans (h.block x hx h1 h2)⟩
abbrev kO:Obj:=.cells #[.int .i64 0,.int .i64 0,.int .i64 0,.int .i64 0,.slice none 0 0,.slice none 0 0,.slice none 0 0,.slice none 0 0] 59
theorem zkv (lo i:Nat)(v:fW)(r:b6)(d:bO)(e:ByteArray)(w:aE)(h:eH w lo v r)(hd:r.recs[i]? =some d)(hn:r.recs.length<=100000)(Kx:r.wait.length<=100000)(eL:lo<=w.heap.size):
 gT aK 96 #[.agg (fV v r),.int .i64 (i:Int),.string e] w λx w'=>∃g c,x=.returned (.agg (fV {v with gW:=g,cW:=c} (lP r i e)))/\eH w' lo {v with gW:=g,cW:=c} (lP r i e)/\o6 v w w'/\w.heap.size<=g:=by
 obtain⟨gb,fA⟩:=aN w.heap.size;have hl:=h.lts;have hi:=(lX.1 hd).1;obtain⟨O,hO⟩:=aN (.cells (fV v r) 59:qN);obtain⟨Z,hZ⟩:=aN (kO:qN);have lR:((w.alloc O).alloc Z).heap[gb]? =some (.cells (fV v r) 59):=by rw[hO,fA];exact dH (gV _ _) _
 have rF:((w.alloc O).alloc Z).heap[gb+1]? =some kO:=by rw[<-hZ];exact l6 _ _ Zt
 have j9:=(h.alloc O).alloc Z;have T1:o6 v w ((w.alloc O).alloc Z):=o6.of_below v (eK (eK (gD _ _) _) _);have Ab:=aD lR;have zbh:=aD rF;have jJ:=aD j9;have Ga:=aD T1;have HO:=aD hO;have HZ:=aD (show Z=.cells #[.int .i64 0,.int .i64 0,.int .i64 0,.int .i64 0,.slice none 0 0,.slice none 0 0,.slice none 0 0,.slice none 0 0] 59 from hZ);have fZ:=aD fA;have HD:=aD hd;clear hO hZ fA lR rF j9 T1 hd h;have i0:(0:Int)<=(i:Int):=aC;have i1:(i:Int)<(r.recs.length:Int):=aC
 go_enter Tryz.func96,Tryz.ntmps96
 go_upto_region 1 with fail
 rw[<-HO.o,<-HZ.o,<-fZ.o];obtain⟨W1,dC⟩:=aN ((w.alloc O).alloc Z);have dF:W1.heap.size=gb+2:=by rw[dC,fZ.o];simp
 rw[<-dC] at Ab zbh jJ Ga⊢;have p8:=aD dF;have Kv:gb≠v.gR:=by have:=fZ.o;omega
 have Bd:gb≠v.gB:=by have:=fZ.o;omega
 have Rb:gb+1≠v.gR:=by have:=fZ.o;omega
 have zaX:gb+1≠v.gB:=by have:=fZ.o;omega
 clear dC dF;have k:=aI Ab.o;obtain⟨c0,c1,c2,c3,c4,c5,c6⟩:=jJ.o.recAt HD.o;have fz:=λj=>jJ.o.rc.frozenAt j;have k3:=k 3;have k4:=k 4;have S1:=jJ.o.setR (λd=>{d with t:=r.clk}) HD.o (j:=5) aH zpS rfl;have mQ:=aD S1;clear S1 k
 go_upto_region 2 with fail
 obtain⟨W2,n6⟩:=aN (W1.setCell ⟨v.gR,i*7+5,none⟩ (.int .i64 r.clk));rw[<-n6] at mQ⊢;have Bo:(r.recs.modify i λd=>{d with t:=r.clk})[i]? =some {d with t:=r.clk}:=by rw[Iz];simp[HD.o]
 have Xb:=aD Bo;have ztZ:=aD (mQ.o.2.blk Ab.o Kv Bd);have zz8:=aD (mQ.o.2.blk zbh.o Rb zaX);clear n6 c0 c1 c2 c3 c4 c5 c6 fz k3 k4 Bo;have k4:=aI ztZ.o 4;obtain⟨c0,c1,c2,c3,c4,c5,c6⟩:=mQ.o.1.recAt Xb.o;have fz:=λj=>mQ.o.1.rc.frozenAt j;have S2:=mQ.o.1.setR (λd=>{d with e:=e}) Xb.o (j:=6) aH zwI rfl;rw[zfy] at S2;have tN:=aD S2;clear S2
 go_upto_region 3 with fail
 obtain⟨W3,qL⟩:=aN (W2.setCell ⟨v.gR,i*7+6,none⟩ (.string e));rw[<-qL] at tN⊢;have ztM:(r.recs.modify i λd=>{d with t:=r.clk,e:=e})[i]? =some {d with t:=r.clk,e:=e}:=by rw[Iz];simp[HD.o]
 have Yi:=aD ztM;have Xu:=aD (Ga.o.same (mQ.o.2.same tN.o.2));have zcS:=tN.o.2.blk ztZ.o Kv Bd;have zti:=aD (tN.o.2.blk zz8.o Rb zaX);have E6:=aD (show eH W3 lo v {r with recs:=vY r i e} from tN.o.1);have zeu:gb+2<=W3.heap.size:=by have:=Xu.o.size;have:=p8.o;have:=mQ.o.2.size;have:=tN.o.2.size;omega
 clear qL c0 c1 c2 c3 c4 c5 c6 fz k4 ztM;have k4:=aI zcS 4;have k5:=aI zcS 5;have fz:=fC zcS;obtain⟨c0,-,-,-,-,-,-⟩:=tN.o.1.recAt Yi.o;have zI3:=aD zcS;have Kw:=E6.o.slcW;have Te:=aD Kw;clear zcS Kw
 go_cut [] from 20 to 29 (λwx=>∃g c,wx.heap[gb]? =some (yJ {v with gW:=g,cW:=c} (lP r i e))/\wx.heap[gb+1]? =some kO/\eH wx lo {v with gW:=g,cW:=c} (lP r i e)/\o6 v w wx/\w.heap.size<=g/\gb+1<g)
 case first=>
  go_region_with (go_at_call 95;refine(zgR lo W3.heap.size r.wait.length v.cW (some ⟨v.gW,0,none⟩) r.wait d.c W3.drew (Te.o.keep (bM _) (λ_ _ _ _=>rfl)) Kx).mono ?_;rintro x w4 ⟨_,rfl,g,cp,rfl,cY,b4⟩;have k0:=(mU b4 (Ku zI3.o)).1;have k5:=aI k0 5;have fz:=fC k0;have z4:=gM k0;have Uq:=aD cY;clear cY)
  all_goals
   go_wp2_with fail
   go_meet
   have q9:=Sx HD.o;have Pm:=Xu.o.size;have hg:W3.heap.size<=g:=(Uq.o.lt g rfl).1;have Al:∀b,b<W3.heap.size->b≠gb->(w4.setCell ⟨gb,5,none⟩ (.slice (some ⟨g,0,none⟩) (dK r.wait d.c).length cp)).heap[b]? =W3.heap[b]? :=λb hb aS=>(dX w4 _ _ b aS).trans (b4.block b hb);have l3:=E6.o.lts;have fA:=fZ.o;refine⟨g,cp,?_,(Al _ (gM zti.o) aC).trans zti.o,?_,⟨b4.os.trans Xu.o.os,b4.tape.trans Xu.o.tape,b4.output.trans Xu.o.output,?_,λb hb h1 h2=>(Al b aC aC).trans (Xu.o.block b hb h1 h2)⟩,aC,aC⟩
   .rw[oK k0,<-q9]
    rw[zCS v r i g cp e]
   .have a:=E6.o.ap
    have hk:∀b,b<w.heap.size->W3.heap.size<=W3.heap.size:=λ_ _=>bM _;have row:(w4.setCell ⟨gb,5,none⟩ (.slice (some ⟨g,0,none⟩) (dK r.wait d.c).length cp)).ownsRow W3.heap.size 100 2 (.slice (some ⟨g,0,none⟩) (dK r.wait d.c).length cp) (dK r.wait d.c).length (bK (dK r.wait d.c)):=Bn Uq.o (dX w4 _ _ g tV);have zkE:∀{E s n:Nat} {A:Nat} {c:Nat} {xs:List aF},A<gb->W3.ownsRow lo E s (.slice (some ⟨A,0,none⟩) n c) n xs->(w4.setCell ⟨gb,5,none⟩ (.slice (some ⟨g,0,none⟩) (dK r.wait d.c).length cp)).ownsRow lo E s (.slice (some ⟨A,0,none⟩) n c) n xs:=λ{E s n A c xs} hA h=>Bn h (Al A (h.lt A rfl).2 aC);have l0:=hl;refine⟨zkE uB E6.o.rc,?_,zkE uB E6.o.bk,zkE uB E6.o.lg,by grind⟩;have:=zjn row (base':=lo) aC;rw[<-q9] at this⊢;exact this
   .grind
 case rest=>
  obtain⟨g,c,kb,kr,hR,hT,hg,zFn⟩:=hcut;have zJG:g<gb\/gb+1<g:=.inr zFn;have k:=aI kb;obtain⟨k0,k1,k2,k3,k4,k5,k6,k7⟩:=eT k;have q:=aI kr;obtain⟨q0,q1,q2,q3,q4,q5,q6,q7⟩:=eT q;have qf:=fC kr;have HR:=aD hR;have HT:=aD hT;have HG:=aD hg;have kE:=aD kr;clear hR hT hg kb kr k q;go_wp2;have er:=aI (zbc (a0:=.int .i64 (lP r i e).o.ln) (a1:=.int .i64 (lP r i e).o.op) (a2:=.int .i64 (lP r i e).o.pt) (a3:=.int .i64 (lP r i e).clk) (a4:=.slice (some ⟨v.gR,0,none⟩) (lP r i e).recs.length v.cR) (a5:=.slice (some ⟨g,0,none⟩) (lP r i e).wait.length c) (a6:=.slice (some ⟨v.gB,0,none⟩) (lP r i e).back.length v.cB) (a7:=.slice (some ⟨v.gL,0,none⟩) (lP r i e).log.length v.cL) kE.o);have l:=HR.o.lts;have fA:=fZ.o;have znU:=HG.o;have Aw:=hl;have a:=HR.o.ap;refine bodyPost_ret (v:=.agg (fV {v with gW:=g,cW:=c} (lP r i e))) ?_ rfl ⟨g,c,rfl,HR.o.set8 ?_,HT.o.set8 aC,znU⟩
  .unfold gX at er
   simp[results,Tryz.results96,go_sem,er]
  .grind
structure gQ (w0 w:aE)(lo gb k:Nat)(v0 v:fW)(r:b6):Prop where
 ok:eH w lo v r
 turn:o6 v0 w0 w
 moved:yC gb v0 v
 base:gb=w0.heap.size
 blk:w.heap[gb]? =some (.cells (fV v r) 59)
 size:gb+k<=w.heap.size
 kpos:0<k
 aR:v.gR<gb\/gb+k<=v.gR
 aW:v.gW<gb\/gb+k<=v.gW
 aB:v.gB<gb\/gb+k<=v.gB
 aL:v.gL<gb\/gb+k<=v.gL
 lob:lo<=gb
section
variable {w0 w w':aE}{lo gb k:Nat}{v0 v:fW}{r:b6}
def gQ.keep (h:gQ w0 w lo gb k v0 v r)(b:cH w.heap.size w w'):gQ w0 w' lo gb k v0 v r:=
 ⟨h.ok.below b,h.turn.same (o6.of_below v0 b),h.moved,h.base,(b.block _ (gM h.blk)).trans h.blk,eE h.size b.size,h.kpos,h.aR,h.aW,h.aB,h.aL,h.lob⟩
def gQ.alloc (h:gQ w0 w lo gb k v0 v r)(o:qN):gQ w0 (w.alloc o) lo gb k v0 v r:=h.keep (eK (gD _ _) o)
def gQ.drew (h:gQ w0 w lo gb k v0 v r):gQ w0 w.drew lo gb k v0 v r:=h.keep ⟨rfl,rfl,rfl,bM _,λ_ _=>rfl⟩
def room_R (v:fW)(r:b6)(g c:Nat)(xs:List bO):(fV v r).setIfInBounds 4 (.slice (some ⟨g,0,none⟩) xs.length c)=fV {v with gR:=g,cR:=c} {r with recs:=xs}:=rfl
def room_W (v:fW)(r:b6)(g c:Nat)(xs:List bH):(fV v r).setIfInBounds 5 (.slice (some ⟨g,0,none⟩) xs.length c)=fV {v with gW:=g,cW:=c} {r with wait:=xs}:=rfl
def room_B (v:fW)(r:b6)(g c:Nat)(xs:List bH):(fV v r).setIfInBounds 6 (.slice (some ⟨g,0,none⟩) xs.length c)=fV {v with gB:=g,cB:=c} {r with back:=xs}:=rfl
def room_L (v:fW)(r:b6)(g c:Nat)(xs:List (List UInt8)):(fV v r).setIfInBounds 7 (.slice (some ⟨g,0,none⟩) xs.length c)=fV {v with gL:=g,cL:=c} {r with log:=xs}:=rfl
def Az {N g:Nat}{o:qN}(hb:w.grownBy w' (some g))(hN:w.heap[N]? =some o)(aS:N≠g):w'.heap[N]? =some o/\N<w'.heap.size:=
 ⟨(hb.block N (gM hN) zhg).trans hN,jP (gM hN) hb.size⟩
variable {u:aF}
theorem zyG {row:Nat}{b i:Nat}(hg:w.grownBy w' (some row)){x:Nat}(hx:x<w.heap.size)(h1:x≠row)(h2:x≠b):(w'.setCell ⟨b,i,none⟩ u).heap[x]? =w.heap[x]? :=
 (dX w' _ _ x h2).trans (hg.block x hx (by simp;exact h1))
def eH.setCell {b i:Nat}(h:eH w lo v r)(hb:b≠v.gR/\b≠v.gW/\b≠v.gB/\b≠v.gL):eH (w.setCell ⟨b,i,none⟩ u) lo v r:=
 ⟨Bn h.rc (dX w _ _ _ (Ne.symm hb.1)),Bn h.wt (dX w _ _ _ (Ne.symm hb.2.1)),Bn h.bk (dX w _ _ _ (Ne.symm hb.2.2.1)),Bn h.lg (dX w _ _ _ (Ne.symm hb.2.2.2)),h.ap⟩
theorem gQ.appB {m g c:Nat}{x:bH}(h:gQ w0 w lo gb k v0 v r)(hg:w.grownBy w' (some v.gB))(ho:w'.ownsRow lo 100 2 (.slice (some ⟨g,0,none⟩) m c) m (bK r.back++x.cells))(hm:m=r.back.length+1)(hw:g=v.gB\/g=w.heap.size):
 gQ w0 (w'.setCell ⟨gb,6,none⟩ (.slice (some ⟨g,0,none⟩) m c)) lo gb k v0 {v with gB:=g,cB:=c} {r with back:=r.back++[x]}:=by
 have hk:=h.ok.appB hg ho hm aC;have sz:=h.size;have kp:=h.kpos;have aR:=h.aR;have aW:=h.aW;have aB:=h.aB;have aL:=h.aL;have l:=h.ok.lts;have hs:=hg.size;have Nk:=h.base;have kb:=(Az hg h.blk aC).1;have zdV:g≠gb:=aC;refine⟨hk.setCell tV,?_,⟨h.moved.r,h.moved.w,?_,h.moved.l⟩,h.base,?_,?_,kp,aR,aW,?_,aL,h.lob⟩
 .have t:=h.turn
  have mb:=h.moved.b;refine⟨hg.os.trans t.os,hg.tape.trans t.tape,hg.output.trans t.output,?_,λb hb h1 h2=>?_⟩
  .rw[xG];have:=t.size;omega
  .exact(zyG hg zgk aC aC).trans (t.block b hb h1 h2)
 .have:=h.moved.b
  simp only;omega
 .rw[oK kb]
  simp_all
 .rw[xG];omega
 .simp only;omega
theorem gQ.appR {m g c:Nat}{x:bO}(h:gQ w0 w lo gb k v0 v r)(hg:w.grownBy w' (some v.gR))(ho:w'.ownsRow lo 50 7 (.slice (some ⟨g,0,none⟩) m c) m (recs r.recs++x.cells))(hm:m=r.recs.length+1)(hw:g=v.gR\/g=w.heap.size):
 gQ w0 (w'.setCell ⟨gb,4,none⟩ (.slice (some ⟨g,0,none⟩) m c)) lo gb k v0 {v with gR:=g,cR:=c} {r with recs:=r.recs++[x]}:=by
 have hk:=h.ok.appR hg ho hm aC;have sz:=h.size;have kp:=h.kpos;have aR:=h.aR;have aW:=h.aW;have aB:=h.aB;have aL:=h.aL;have l:=h.ok.lts;have hs:=hg.size;have Nk:=h.base;have kb:=(Az hg h.blk aC).1;have zdV:g≠gb:=aC;refine⟨hk.setCell tV,?_,⟨?_,h.moved.w,h.moved.b,h.moved.l⟩,h.base,?_,?_,kp,?_,aW,aB,aL,h.lob⟩
 .have t:=h.turn
  have mb:=h.moved.r;refine⟨hg.os.trans t.os,hg.tape.trans t.tape,hg.output.trans t.output,?_,λb hb h1 h2=>?_⟩
  .rw[xG];have:=t.size;omega
  .exact(zyG hg zgk aC aC).trans (t.block b hb h1 h2)
 .have:=h.moved.r
  simp only;omega
 .rw[oK kb]
  simp_all
 .rw[xG];omega
 .simp only;omega
variable {xs:List bH}
theorem gQ.setW {g c n:Nat}(h:gQ w0 w lo gb k v0 v r)(b:cH n w w')(ho:w'.ownsRow n 100 2 (.slice (some ⟨g,0,none⟩) xs.length c) xs.length (bK xs))(hn:n=w.heap.size):
 gQ w0 (w'.setCell ⟨gb,5,none⟩ (.slice (some ⟨g,0,none⟩) xs.length c)) lo gb k v0 {v with gW:=g,cW:=c} {r with wait:=xs}:=by
 subst hn;have hg:w.heap.size<=g:=(ho.lt g rfl).1;have sz:=h.size;have l:=h.ok.lts;have Nk:=h.base;have lob:=h.lob;have hk:=h.ok.newW (w':=w') (λx hx=>b.block x hx) (zjn ho aC) rfl hg;have kp:=h.kpos;have aR:=h.aR;have aW:=h.aW;have aB:=h.aB;have aL:=h.aL;have hs:=b.size;have kb:=(mU b h.blk).1;refine⟨hk.setCell tV,?_,⟨h.moved.r,.inr L4,h.moved.b,h.moved.l⟩,h.base,?_,?_,kp,aR,.inr L4,aB,aL,h.lob⟩
 .have t:=h.turn
  refine⟨b.os.trans t.os,b.tape.trans t.tape,b.output.trans t.output,?_,λy hy h1 h2=>?_⟩
  .rw[xG];have:=t.size;omega
  .exact((dX w' _ _ y (by show y≠gb;omega)).trans (b.block y zgk)).trans (t.block y hy h1 h2)
 .rw[oK kb]
  rw[room_W v r g c xs]
 .rw[xG];omega
theorem gQ.setB {g c n:Nat}(h:gQ w0 w lo gb k v0 v r)(b:cH n w w')(ho:w'.ownsRow n 100 2 (.slice (some ⟨g,0,none⟩) xs.length c) xs.length (bK xs))(hn:n=w.heap.size):
 gQ w0 (w'.setCell ⟨gb,6,none⟩ (.slice (some ⟨g,0,none⟩) xs.length c)) lo gb k v0 {v with gB:=g,cB:=c} {r with back:=xs}:=by
 subst hn;have hg:w.heap.size<=g:=(ho.lt g rfl).1;have sz:=h.size;have l:=h.ok.lts;have Nk:=h.base;have lob:=h.lob;have hk:=h.ok.newB (w':=w') (λx hx=>b.block x hx) (zjn ho aC) rfl hg;have kp:=h.kpos;have aR:=h.aR;have aW:=h.aW;have aB:=h.aB;have aL:=h.aL;have hs:=b.size;have kb:=(mU b h.blk).1;refine⟨hk.setCell tV,?_,⟨h.moved.r,h.moved.w,.inr L4,h.moved.l⟩,h.base,?_,?_,kp,aR,aW,.inr L4,aL,h.lob⟩
 .have t:=h.turn
  refine⟨b.os.trans t.os,b.tape.trans t.tape,b.output.trans t.output,?_,λy hy h1 h2=>?_⟩
  .rw[xG];have:=t.size;omega
  .exact((dX w' _ _ y (by show y≠gb;omega)).trans (b.block y zgk)).trans (t.block y hy h1 h2)
 .rw[oK kb]
  rw[room_B v r g c xs]
 .rw[xG];omega
theorem gQ.setR {i j:Nat}{d:bO}(f:bO->bO)(h:gQ w0 w lo gb k v0 v r)(hd:r.recs[i]? =some d)(hj:j<7)(hs:∀k,k<7->k≠j->(f d).cells[k]? =d.cells[k]?)(hv:(f d).cells[j]? =some u):
 gQ w0 (w.setCell ⟨v.gR,i*7+j,none⟩ u) lo gb k v0 v {r with recs:=r.recs.modify i f}:=by
 obtain⟨h1,h2⟩:=h.ok.setR f hd hj hs hv;have l:=h.ok.lts;have Nk:=h.base;have mr:=h.moved.r;have kp:=h.kpos;have aR:=h.aR;have sz:=h.size;refine⟨h1,?_,h.moved,h.base,?_,by simp_all,h.kpos,h.aR,h.aW,h.aB,h.aL,h.lob⟩
 .have t:=h.turn
  refine⟨t.os,t.tape,t.output,by rw[xG];exact t.size,λy hy e1 e2=>?_⟩;exact(dX w _ _ y (by show y≠v.gR;omega)).trans (t.block y hy e1 e2)
 .have e:(w.setCell ⟨v.gR,i*7+j,none⟩ u).heap[gb]? =w.heap[gb]? :=dX w _ _ gb (by show gb≠v.gR;omega)
  rw[e,h.blk];simp_all
theorem gQ.turned {n:Nat}{v':fW}{r':b6}(h:gQ w0 w lo gb k v0 v r)(ho:eH w' lo v' r')(t:o6 v w w')(m:yC n v v')(hn:n=w.heap.size):
 eH w' lo v' r'/\o6 v0 w0 w'/\yC gb v0 v'/\w'.heap[gb]? =some (.cells (fV v r) 59):=by
 have Nk:=h.base;have sz:=h.size;have kp:=h.kpos;have aR:=h.aR;have aB:=h.aB;exact⟨ho,h.turn.trans t h.moved aC,h.moved.trans m aC,t.blk h.blk aC aC⟩
theorem gQ.done {b:Nat}{a0 a1 a2 a3 a4 a5 a6 a7:aF}(h:gQ w0 w lo gb k v0 v r)(hb:gb<=b/\b<gb+k):eH (gX w b a0 a1 a2 a3 a4 a5 a6 a7) lo v r/\o6 v0 w0 (gX w b a0 a1 a2 a3 a4 a5 a6 a7)/\yC w0.heap.size v0 v:=by
 have aR:=h.aR;have aW:=h.aW;have aB:=h.aB;have aL:=h.aL;have Nk:=h.base;exact⟨h.ok.set8 aC,h.turn.set8 aC,Nk▸h.moved⟩
theorem B6 {a:bC}{v:aF}(h:w.cell? a=some v)(o:qN):(w.alloc o).cell? a=some v:=(aE.cell?_alloc_some w a o (by rw[h];rfl)).trans h
end
def tF {z0 z1 z2 z3 z4 z5 z6 z7:aF}(v:fW)(r:b6)(h:w.heap[b]? =some (.cells #[z0,z1,z2,z3,z4,z5,z6,z7] T)):
 (gX w b (.int .i64 r.o.ln) (.int .i64 r.o.op) (.int .i64 r.o.pt) (.int .i64 r.clk) (v.sR r) (v.sW r) (v.sB r) (v.sL r)).heap[b]? =some (.cells #[.int .i64 r.o.ln,.int .i64 r.o.op,.int .i64 r.o.pt,.int .i64 r.clk,v.sR r,v.sW r,v.sB r,v.sL r] T):=zbc h
theorem zgB (h:eH w lo v r)(eL:lo<=w.heap.size):∃(gb:Nat) (O Z:qN),rJ (gb=w.heap.size)/\rJ (O=.cells (fV v r) 59)/\rJ (Z=.cells #[.int .i64 0,.int .i64 0,.int .i64 0,.int .i64 0,.slice none 0 0,.slice none 0 0,.slice none 0 0,.slice none 0 0] 59)/\
 rJ (gQ w ((w.alloc O).alloc Z) lo gb 2 v v r)/\rJ (((w.alloc O).alloc Z).heap[gb+1]? =some kO)/\rJ (((w.alloc O).alloc Z).heap.size=gb+2)/\rJ (v.gR<gb/\v.gW<gb/\v.gB<gb/\v.gL<gb):=by
 obtain⟨gb,fA⟩:=aN w.heap.size;have hl:=h.lts;obtain⟨O,hO⟩:=aN (.cells (fV v r) 59:qN);obtain⟨Z,hZ⟩:=aN (kO:qN);have lR:((w.alloc O).alloc Z).heap[gb]? =some (yJ v r):=by rw[hO,fA];exact dH (gV _ _) _
 have rF:((w.alloc O).alloc Z).heap[gb+1]? =some kO:=by rw[<-hZ];exact l6 _ _ Zt
 have dF:((w.alloc O).alloc Z).heap.size=gb+2:=by rw[fA];simp
 have fD:=aD (show gQ w ((w.alloc O).alloc Z) lo gb 2 v v r from⟨(h.alloc O).alloc Z,o6.of_below v (eK (eK (gD _ _) _) _),yC.refl _ _,fA,lR,aC,aC,.inl aC,.inl aC,.inl aC,.inl aC,aC⟩);have p8:=aD dF
 grind
theorem dec_big {u:Nat}(h:9<u):zak u=zak (u/10)++[zbb (48+u%10)]:=by
 rw[zak,dif_neg aC]
theorem zdg (k:Nat)(hk:k<=100000000)(w:aE):
 gT aK 94 #[.int .i64 k] w λe w'=>e=.returned (.string ⟨(Ly k).toArray⟩)/\cH w.heap.size w w':=by
 have hI:=aD (Lib.itoa_nonneg k)
 go_enter Tryz.func94,Tryz.ntmps94
 go_wp2
 go_loopw [0,3] (λa s wr=>∃(u:Nat) (l:List UInt8),a=.int .i64 u/\s=.string ⟨l.toArray⟩/\u<=100000000/\zak u++l=zak k/\cH w.heap.size w wr) (λa _ _=>(intOf a).toNat)
 case atStart=>exact⟨k,[],rfl,rfl,hk,List.append_nil _,gD _ _⟩
 case round=>
  obtain⟨u,l,rfl,rfl,hu,hl,B⟩:=hrel;have HL:=aD hl;have Ko:l.length<=20:=by have:=congrArg List.length HL.o;rw[j5] at this;have:=Tb (k:=k) aC;omega
  by_cases aT:9<u
  .have zkz:=cv1 wr (48+u%10) aC
   rw[show((48+u%10:Nat):Int)=48+(u:Int)%10 by omega] at zkz;have HD:=aD (dec_big aT);go_wp2;go_roundw
   case rel=>exact⟨u/10,zbb (48+u%10)::l,by first|rfl|(congr 1;omega),by rw[Oc];simp,aC,by rw[<-HL.o,HD.o];simp,eK B _⟩
   case measure=>simp[intOf];omega
  .have zkz:=cv1 wr (48+u) aC
   rw[show((48+u:Nat):Int)=48+(u:Int) by omega] at zkz;have HT:=aD (show(⟨[zbb (48+u)].toArray⟩:ByteArray)++⟨l.toArray⟩=⟨(Ly k).toArray⟩ by rw[Oc,hI.o,<-HL.o,Lib.decDigits_one aC];simp);go_wp2;go_ret;exact⟨congrArg (λx=>znO (aF.string x)) (by rw[<-HT.o];simp),eK B _⟩
end Go.Proofs.YtfcjiloojkjaeaaGreatDoor
namespace Go.Tt
abbrev Pr:=Nat->Nat->Prop
def Pr.le (R R':Pr):Prop:=∀a b,R a b->R' a b
def Pr.le.refl (R:Pr):R.le R:=λ_ _ h=>h
variable {R R':Pr}
def Pr.le.trans {Re:Pr}(h:R.le R')(h':R'.le Re):R.le Re:=λa b x=>h' a b (h a b x)
def Pr.add (R:Pr)(n n':Nat):Pr:=λa b=>R a b\/(a=n/\b=n')
def Pr.le_add (R:Pr)(n n':Nat):R.le (R.add n n'):=λ_ _ h=>.inl h
inductive fT (R:Pr):bC->bC->Prop
 |mk {b b' o:Nat} {s:Option Nat}:R b b'->fT R ⟨b,o,s⟩ ⟨b',o,s⟩
inductive yB (R:Pr):Option bC->Option bC->Prop
 |none:yB R none none
 |some {a a':bC}:fT R a a'->yB R (some a) (some a')
inductive F0 (R:Pr):Option Nat->Option Nat->Prop
 |none:F0 R none none
 |some {a a':Nat}:R a a'->F0 R (some a) (some a')
def Pr.or (R K:Pr):Pr:=λa b=>R a b\/K a b
variable {K:Pr}
def Pr.or_mono (h:R.le R'):(R.or K).le (R'.or K):=λa b x=>x.imp (h a b) id
def HidV:aF->Prop
 | .agg _| .tuple _| .bool _| .nilIface=>False
 |_=>True
inductive VR (S:aP->Prop)(K R:Pr):aF->aF->Prop
 |bool (b:Bool):VR S K R (.bool b) (.bool b)
 |int (k:Dr) (n:Int):VR S K R (.int k n) (.int k n)
 |string (s:ByteArray):VR S K R (.string s) (.string s)
 |nilFunc:VR S K R .nilFunc .nilFunc
 |nilIface:VR S K R .nilIface .nilIface
 |pointer {a a':Option bC}:yB R a a'->VR S K R (.pointer a) (.pointer a')
 |slice {a a':Option bC} {n c:Nat}:yB R a a'->VR S K R (.slice a n c) (.slice a' n c)
 |map {a a':Option Nat}:F0 R a a'->VR S K R (.map a) (.map a')
 |chan {a a':Option Nat}:F0 (R.or K) a a'->VR S K R (.chan a) (.chan a')
 |func {f:aP} {xs cC ys Zf:Array aF}:S f->xs.size=cC.size->(∀(i:Nat) (v v':aF),xs[i]? =some v->cC[i]? =some v'->VR S K R v v')->
  ys.size=Zf.size->(∀(i:Nat) (v v':aF),ys[i]? =some v->Zf[i]? =some v'->VR S K R v v')->VR S K R (.func (.func f) xs ys) (.func (.func f) cC Zf)
 |iface {t:aM} {v v':aF}:VR S K R v v'->VR S K R (.iface t v) (.iface t v')
 |agg {xs cC:Array aF}:xs.size=cC.size->(∀(i:Nat) (v v':aF),xs[i]? =some v->cC[i]? =some v'->VR S K R v v')->VR S K R (.agg xs) (.agg cC)
 |tuple {xs cC:Array aF}:xs.size=cC.size->(∀(i:Nat) (v v':aF),xs[i]? =some v->cC[i]? =some v'->VR S K R v v')->VR S K R (.tuple xs) (.tuple cC)
 |junk {v':aF}:HidV v'->VR S K R .nilFunc v'
def bQ (S:aP->Prop)(K R:Pr)(xs cC:Array aF):Prop:=xs.size=cC.size/\∀(i:Nat) (v v':aF),xs[i]? =some v->cC[i]? =some v'->VR S K R v v'
section
variable {S:aP->Prop}{K R R':Pr}
theorem fT.mono (h:R.le R'){a a':bC}(x:fT R a a'):fT R' a a':=by cases x with|mk x=>exact .mk (h _ _ x)
theorem yB.mono (h:R.le R'){a a':Option bC}(x:yB R a a'):yB R' a a':=by cases x with|none=>exact .none|some x=>exact .some (x.mono h)
theorem F0.mono (h:R.le R'){a a':Option Nat}(x:F0 R a a'):F0 R' a a':=by cases x with|none=>exact .none|some x=>exact .some (h _ _ x)
variable {v v':aF}
theorem VR.mono (h:R.le R')(x:VR S K R v v'):VR S K R' v v':=by
 induction x with
 |bool b=>exact .bool b
 |int k n=>exact .int k n
 |string s=>exact .string s
 |nilFunc=>exact .nilFunc
 |nilIface=>exact .nilIface
 |pointer x=>exact .pointer (x.mono h)
 |slice x=>exact .slice (x.mono h)
 |map x=>exact .map (x.mono h)
 |chan x=>exact .chan (x.mono (Pr.or_mono h))
 |func s e1 _ e2 _ i1 i2=>exact .func s e1 i1 e2 i2
 |iface _ ih=>exact .iface ih
 |agg e _ ih=>exact .agg e ih
 |tuple e _ ih=>exact .tuple e ih
 |junk h=>exact .junk h
variable {xs cC:Array aF}
def bQ.mono (h:R.le R')(x:bQ S K R xs cC):bQ S K R' xs cC:=⟨x.1,λi v v' h1 h2=>(x.2 i v v' h1 h2).mono h⟩
variable {i:Nat}
theorem bQ.get (x:bQ S K R xs cC)(h:xs[i]? =some v):∃v',cC[i]? =some v'/\VR S K R v v':=by
 have hi:i<cC.size:=by rw[<-x.1];exact(eM.1 h).1
 exact⟨cC[i],qI hi,x.2 i _ _ h (qI hi)⟩
theorem bQ.none (x:bQ S K R xs cC)(h:xs[i]? =none):cC[i]? =none:=by
 rw[zqt] at h⊢;rw[<-x.1];exact h
theorem bQ.getD (x:bQ S K R xs cC)(i:Nat){d d':aF}(hd:VR S K R d d'):VR S K R (xs.getD i d) (cC.getD i d'):=by
 rw[x4,x4]
 cases h:xs[i]? with
 |none=>rw[x.none h];exact hd
 |some v=>obtain⟨v',h',hv⟩:=x.get h;rw[h'];exact hv
theorem bQ.set (x:bQ S K R xs cC)(i:Nat)(hv:VR S K R v v'):bQ S K R (xs.setIfInBounds i v) (cC.setIfInBounds i v'):=by
 refine⟨by simp[x.1],λj u u' h h'=>?_⟩;by_cases e:i=j
 .grind
 .rw[tY e] at h h'
  exact x.2 j u u' h h'
theorem bQ.push (x:bQ S K R xs cC)(hv:VR S K R v v'):bQ S K R (xs.push v) (cC.push v'):=by
 refine⟨by simp[x.1],λj u u' h h'=>?_⟩;rw[zlf] at h h';rw[<-x.1] at h';split at h
 .simp_all
 .rename_i e;rw[if_neg e] at h';exact x.2 j u u' h h'
theorem bQ.append {ys Zf:Array aF}(x:bQ S K R xs cC)(y:bQ S K R ys Zf):bQ S K R (xs++ys) (cC++Zf):=by
 refine⟨by simp[x.1,y.1],λj u u' h h'=>?_⟩;rw[Array.getElem?_append] at h h';rw[<-x.1] at h';split at h
 .rename_i e;rw[if_pos e] at h';exact x.2 j u u' h h'
 .rename_i e;rw[if_neg e] at h';exact y.2 _ u u' h h'
theorem bQ.empty:bQ S K R #[] #[]:=⟨rfl,λi v v' h=>by simp at h⟩
def bQ.one (h:VR S K R v v'):bQ S K R #[v] #[v']:=bQ.empty.push h
theorem bQ.extract (x:bQ S K R xs cC)(i j:Nat):bQ S K R (xs.extract i j) (cC.extract i j):=by
 refine⟨by simp[x.1],λk u u' h h'=>?_⟩;rw[Array.getElem?_extract] at h h';split at h
 .rename_i e;rw[<-x.1,if_pos e] at h';exact x.2 _ u u' h h'
 .cases h
def VR.agg' (x:bQ S K R xs cC):VR S K R (.agg xs) (.agg cC):=.agg x.1 x.2
def VR.tuple' (x:bQ S K R xs cC):VR S K R (.tuple xs) (.tuple cC):=.tuple x.1 x.2
theorem VR.cells (x:VR S K R v v'):bQ S K R v.cells v'.cells:=by
 cases x with
 |agg e h=>exact⟨e,h⟩
 |bool b=>exact .one (.bool b)
 |int k n=>exact .one (.int k n)
 |string s=>exact .one (.string s)
 |nilFunc=>exact .one .nilFunc
 |nilIface=>exact .one .nilIface
 |pointer x=>exact .one (.pointer x)
 |slice x=>exact .one (.slice x)
 |map x=>exact .one (.map x)
 |chan x=>exact .one (.chan x)
 |func s e1 h1 e2 h2=>exact .one (.func s e1 h1 e2 h2)
 |iface x=>exact .one (.iface x)
 |tuple e h=>exact .one (.tuple e h)
 |junk h=>
  have e:v'.cells=#[v']:=by cases v'<;>first|rfl|exact h.elim
  rw[e];exact .one (.junk h)
end
structure dQ where
 c:cD
 fs:Array Func
 op:aP->Bool
 lw:aP->Bool
 gs:aP->Bool
 dy:Bool
abbrev dQ.g (P:dQ):Program:={P.c with funcs:=P.fs}
abbrev dQ.underlying (P:dQ)(t:aM):=P.c.underlying t
abbrev dQ.info? (P:dQ)(t:aM):=P.c.info? t
abbrev dQ.globals (P:dQ):=P.c.globals
def Co (p:cD)(g:Nat):Bool:=match p.globals[g]? with|some x=>(match p.underlying x.type with|some (.array _ _)=>true|_=>false)|none=>false
structure Gp where
 n:Nat
 tab:Nat->Bool
abbrev pU (p:cD):Gp:=⟨p.globals.size,Co p⟩
abbrev dQ.gp (P:dQ):Gp:=pU P.c
def dQ.underlying_g (P:dQ)(t:aM):P.g.underlying t=P.c.underlying t:=rfl
def dQ.info_g (P:dQ)(t:aM):P.g.info? t=P.c.info? t:=rfl
def dQ.cells_g (P:dQ)(t:aM):P.g.cellsOf t=P.c.cellsOf t:=rfl
def dQ.bytes_g (P:dQ)(t:aM):P.g.bytesOf t=P.c.bytesOf t:=rfl
def dQ.depth_g (P:dQ):P.g.depth=P.c.depth:=rfl
theorem dQ.byteOfCell_g (P:dQ):∀(d:Nat) (t:aM) (o:Nat),byteOfCell P.g d t o=byteOfCell P.c d t o:=by
 intro d
 induction d with
 |zero=>intro t o;rfl
 |succ d ih=>
  intro t o;unfold byteOfCell;rw[P.underlying_g];simp only[ih,P.cells_g,P.bytes_g];rfl
def dQ.globals_g (P:dQ):P.g.globals=P.c.globals:=rfl
inductive Dh (S:aP->Prop)(K R:Pr):pF->pF->Prop
 |mk {k k' v v':aF} {born:Nat}:VR S K R k k'->VR S K R v v'->Dh S K R ⟨k,v,born⟩ ⟨k',v',born⟩
def rT (S:aP->Prop)(K R:Pr)(es fE:Array pF):Prop:=es.size=fE.size/\∀(i:Nat) (e e':pF),es[i]? =some e->fE[i]? =some e'->Dh S K R e e'
def Lp (fz:Nat×Nat)(o:Nat):Prop:=fz.1<=o/\o<fz.2
inductive o0 (S:aP->Prop)(K R:Pr):qN->qN->Prop
 |cells {c c':Array aF} {T:aM} {fz Kk:Nat×Nat}:bQ S K R c c'->(∀o,Lp Kk o->Lp fz o)->o0 S K R (.cells c T fz) (.cells c' T Kk)
 |map {es fE:Array pF} {cl:Nat}:rT S K R es fE->o0 S K R (.map es cl) (.map fE cl)
 |chan {cap s r:Nat} {L2 zye:Array aF} {closed tm:Bool}:bQ S K R L2 zye->o0 S K R (.chan cap L2 closed s r tm) (.chan cap zye closed s r tm)
 |stringIter (s:ByteArray) (pos:Nat):o0 S K R (.stringIter s pos) (.stringIter s pos)
 |number {a a':bC} {lost:Bool}:fT R a a'->o0 S K R (.number a lost) (.number a' lost)
 |mapIter {m m':Option Nat} {since stepped:Nat} {seen:Array Nat}:F0 R m m'->o0 S K R (.mapIter m since seen stepped) (.mapIter m' since seen stepped)
section
variable {S:aP->Prop}{K R R':Pr}
theorem Dh.mono (h:R.le R'){e e':pF}(x:Dh S K R e e'):Dh S K R' e e':=by cases x with|mk a b=>exact .mk (a.mono h) (b.mono h)
def rT.mono (h:R.le R'){e e':Array pF}(x:rT S K R e e'):rT S K R' e e':=⟨x.1,λi a b h1 h2=>(x.2 i a b h1 h2).mono h⟩
theorem o0.mono (h:R.le R'){o o':qN}(x:o0 S K R o o'):o0 S K R' o o':=by
 cases x with
 |cells a b=>exact .cells (a.mono h) b
 |map a=>exact .map (a.mono h)
 |chan a=>exact .chan (a.mono h)
 |stringIter s p=>exact .stringIter s p
 |number a=>exact .number (a.mono h)
 |mapIter a=>exact .mapIter (a.mono h)
end
def pK:Obj:=.cells #[] 0
structure uA (P:dQ)(K R:Pr):Prop where
 inj:∀a b c,R.or K a b->R.or K a c->b=c
 inj':∀a b c,R.or K a c->R.or K b c->a=b
 low:∀a b,R a b->(a<P.globals.size↔b<P.globals.size)
 tb:∀g,Co P.c g=true->R g g
structure Fresh (P:dQ)(K R:Pr)(n n':Nat):Prop where
 l:∀b,¬R.or K n b
 r:∀a,¬R.or K a n'
 low:P.globals.size<=n/\P.globals.size<=n'
structure y7 (P:dQ)(K R R':Pr):Prop where
 le:R.le R'
 ok:uA P K R->uA P K R'
variable {P:dQ}
def y7.refl (R:Pr):y7 P K R R:=⟨.refl R,id⟩
def y7.trans {Re:Pr}(h:y7 P K R R')(h':y7 P K R' Re):y7 P K R Re:=⟨h.le.trans h'.le,λx=>h'.ok (h.ok x)⟩
theorem y7.add {n n':Nat}(f:Fresh P K R n n'):y7 P K R (R.add n n'):=by
 refine⟨Pr.le_add R n n',λh=>⟨?_,?_,?_,λg hg=>.inl (h.tb g hg)⟩⟩
 .rintro a b c ((x|⟨rfl,rfl⟩)|x) ((y|⟨e,rfl⟩)|y)
  .exact h.inj a b c (.inl x) (.inl y)
  .exact absurd (.inl (e▸x)) (f.l _)
  .exact h.inj a b c (.inl x) (.inr y)
  .exact absurd (.inl y) (f.l _)
  .rfl
  .exact absurd (.inr y) (f.l _)
  .exact h.inj a b c (.inr x) (.inl y)
  .exact absurd (.inr (e▸x)) (f.l _)
  .exact h.inj a b c (.inr x) (.inr y)
 .rintro a b c ((x|⟨rfl,rfl⟩)|x) ((y|⟨rfl,e⟩)|y)
  .exact h.inj' a b c (.inl x) (.inl y)
  .exact absurd (.inl (e▸x)) (f.r _)
  .exact h.inj' a b c (.inl x) (.inr y)
  .exact absurd (.inl y) (f.r _)
  .rfl
  .exact absurd (.inr y) (f.r _)
  .exact h.inj' a b c (.inr x) (.inl y)
  .exact absurd (.inr (e▸x)) (f.r _)
  .exact h.inj' a b c (.inr x) (.inr y)
 .rintro a b (x|⟨rfl,rfl⟩)
  .exact h.low a b x
  .have:=f.low;omega
def Zz:Halt->Prop
 | .panic _| .stuck _=>True
 | .unsupported (.initOrder _)=>False
 | .unsupported _=>True
 |_=>False
def Db (w:aE):Prop:=∀(b:Nat) (c:Array aF) (e:aM),w.heap[b]?≠some (.pending c e)
def fF (P:dQ){α:Type}(s:dA α):Prop:=∀w,Db w->∃h w',s.run P.g w=.halt h w'/\Zz h
variable {α:Type}{w:aE}
theorem fF.no {s:dA α}(h:fF P s)(hw:Db w)(x:α)(w':aE):s.run P.g w≠ .ok x w':=by
 obtain⟨_,_,e,_⟩:=h w hw;rw[e];simp
variable {β:Type}
theorem fF.bind {s:dA α}(h:fF P s)(f:α->dA β):fF P (s.bind f):=by
 intro w hw;obtain⟨y,w1,e,ht⟩:=h w hw;exact⟨y,w1,by rw[vD,e];rfl,ht⟩
def J6 (P:dQ)(S:aP->Prop)(K:Pr){α β:Type}(A:Pr->α->β->Prop):dA α->Pr->dA β->Prop
 | .pure a,R,s'=>∃b,s'=.pure b/\A R a b
 | .load m a k,R,s'=>m=.plain/\∃a' k',s'=.load .plain a' k'/\fT R a a'/\∀v v',VR S K R v v'->fF P (k v)\/J6 P S K A (k v) R (k' v')
 | .store m a v k,R,s'=>m=.plain/\∃a' v' k',s'=.store .plain a' v' k'/\fT R a a'/\VR S K R v v'/\(fF P k\/J6 P S K A k R k')
 | .new o k,R,s'=>∃o' k',s'=.new o' k'/\o0 S K R o o'/\∀n n',Fresh P K R n n'->fF P (k n)\/J6 P S K A (k n) (R.add n n') (k' n')
 | .shape r k,R,s'=>∃r' k',s'=.shape r' k'/\R r r'/\∀x,fF P (k x)\/J6 P S K A (k x) R (k' x)
 | .freeze _ _ _,_,_=>False
 | .frozen a k,R,s'=>∃a' k',s'=.frozen a' k'/\∀x x',fF P (k x)\/J6 P S K A (k x) R (k' x')
 | .getObj r k,R,s'=>∃r' k',s'=.getObj r' k'/\R.or K r r'/\∀o o',o0 S K R o o'->fF P (k o)\/J6 P S K A (k o) R (k' o')
 | .setObj r o k,R,s'=>∃r' o' k',s'=.setObj r' o' k'/\R.or K r r'/\o0 S K R o o'/\(fF P k\/J6 P S K A k R k')
 | .choose q k,R,s'=>∃k',s'=.choose q k'/\∀n,fF P (k n)\/J6 P S K A (k n) R (k' n)
 | .sys _ _,_,_=>False
 | .program k,R,s'=>∃k',s'=.program k'/\(fF P (k P.g)\/J6 P S K A (k P.g) R (k' P.c))
 | .mark m k,R,s'=>m=.noRoom/\∃k',s'=.mark .noRoom k'/\(fF P k\/J6 P S K A k R k')
 | .halt _,_,_=>False
def aG (P:dQ)(S:aP->Prop)(K:Pr){α β:Type}(A:Pr->α->β->Prop)(s:dA α)(R:Pr)(s':dA β):Prop:=fF P s\/J6 P S K A s R s'
section
variable {P:dQ}{S:aP->Prop}{K:Pr}{α β γ δ:Type}{A:Pr->α->β->Prop}{B:Pr->γ->δ->Prop}
def aG.pure {R:Pr}{a:α}{b:β}(h:A R a b):aG P S K A (.pure a) R (.pure b):=.inr ⟨b,rfl,h⟩
def fF.halt {h:Halt}(ht:Zz h):fF P (.halt h:dA α):=λw _=>⟨h,w,rfl,ht⟩
theorem aG.bind {s:dA α}:∀{R:Pr} {s':dA β} {f:α->dA γ} {f':β->dA δ},aG P S K A s R s'->(∀R',y7 P K R R'->∀a b,A R' a b->aG P S K B (f a) R' (f' b))->aG P S K B (s.bind f) R (s'.bind f'):=by
 induction s with
 |pure a=>
  rintro R s' f f' (hn|⟨b,rfl,h⟩) hf
  .exact .inl (hn.bind _)
  .exact hf R (.refl R) a b h
 |load m a k ih=>
  rintro R s' f f' (hn|⟨hm,a',k',rfl,ha,hk⟩) hf
  .exact .inl (hn.bind _)
  .exact .inr ⟨hm,a',_,rfl,ha,λv v' hv=>ih v (hk v v' hv) hf⟩
 |store m a v k ih=>
  rintro R s' f f' (hn|⟨hm,a',v',k',rfl,ha,hv,hk⟩) hf
  .exact .inl (hn.bind _)
  .exact .inr ⟨hm,a',v',_,rfl,ha,hv,ih hk hf⟩
 |new o k ih=>
  rintro R s' f f' (hn|⟨o',k',rfl,ho,hk⟩) hf
  .exact .inl (hn.bind _)
  .exact .inr ⟨o',_,rfl,ho,λn n' gE=>ih n (hk n n' gE) λR' hR a b h=>hf R' ((y7.add gE).trans hR) a b h⟩
 |shape r k ih=>
  rintro R s' f f' (hn|⟨r',k',rfl,hr,hk⟩) hf
  .exact .inl (hn.bind _)
  .exact .inr ⟨r',_,rfl,hr,λx=>ih x (hk x) hf⟩
 |freeze a n k ih=>
  rintro R s' f f' (hn|h) hf
  .exact .inl (hn.bind _)
  .exact h.elim
 |frozen a k ih=>
  rintro R s' f f' (hn|⟨r',k',rfl,hk⟩) hf
  .exact .inl (hn.bind _)
  .exact .inr ⟨r',_,rfl,λx x'=>ih x (hk x x') hf⟩
 |getObj r k ih=>
  rintro R s' f f' (hn|⟨r',k',rfl,hr,hk⟩) hf
  .exact .inl (hn.bind _)
  .exact .inr ⟨r',_,rfl,hr,λo o' ho=>ih o (hk o o' ho) hf⟩
 |setObj r o k ih=>
  rintro R s' f f' (hn|⟨r',o',k',rfl,hr,ho,hk⟩) hf
  .exact .inl (hn.bind _)
  .exact .inr ⟨r',o',_,rfl,hr,ho,ih hk hf⟩
 |choose q k ih=>
  rintro R s' f f' (hn|⟨k',rfl,hk⟩) hf
  .exact .inl (hn.bind _)
  .exact .inr ⟨_,rfl,λn=>ih n (hk n) hf⟩
 |sys c k ih=>
  rintro R s' f f' (hn|h) hf
  .exact .inl (hn.bind _)
  .exact h.elim
 |program k ih=>
  rintro R s' f f' (hn|⟨k',rfl,hk⟩) hf
  .exact .inl (hn.bind _)
  .exact .inr ⟨_,rfl,ih P.g hk hf⟩
 |mark m k ih=>
  rintro R s' f f' (hn|⟨rfl,k',rfl,hk⟩) hf
  .exact .inl (hn.bind _)
  .exact .inr ⟨rfl,_,rfl,ih hk hf⟩
 |halt h=>
  rintro R s' f f' (hn|hx) _
  .exact .inl (hn.bind _)
  .exact hx.elim
theorem aG.mono {A':Pr->α->β->Prop}{s:dA α}:∀{R:Pr} {s':dA β},aG P S K A s R s'->(∀R',y7 P K R R'->∀a b,A R' a b->A' R' a b)->aG P S K A' s R s':=by
 induction s with
 |pure a=>
  rintro R s' (hn|⟨b,rfl,h⟩) hf
  .exact .inl hn
  .exact .inr ⟨b,rfl,hf R (.refl R) a b h⟩
 |load m a k ih=>
  rintro R s' (hn|⟨hm,a',k',rfl,ha,hk⟩) hf
  .exact .inl hn
  .exact .inr ⟨hm,a',_,rfl,ha,λv v' hv=>ih v (hk v v' hv) hf⟩
 |store m a v k ih=>
  rintro R s' (hn|⟨hm,a',v',k',rfl,ha,hv,hk⟩) hf
  .exact .inl hn
  .exact .inr ⟨hm,a',v',_,rfl,ha,hv,ih hk hf⟩
 |new o k ih=>
  rintro R s' (hn|⟨o',k',rfl,ho,hk⟩) hf
  .exact .inl hn
  .exact .inr ⟨o',_,rfl,ho,λn n' gE=>ih n (hk n n' gE) λR' hR a b h=>hf R' ((y7.add gE).trans hR) a b h⟩
 |shape r k ih=>
  rintro R s' (hn|⟨r',k',rfl,hr,hk⟩) hf
  .exact .inl hn
  .exact .inr ⟨r',_,rfl,hr,λx=>ih x (hk x) hf⟩
 |freeze a n k ih=>
  rintro R s' (hn|h) hf
  .exact .inl hn
  .exact h.elim
 |frozen a k ih=>
  rintro R s' (hn|⟨r',k',rfl,hk⟩) hf
  .exact .inl hn
  .exact .inr ⟨r',_,rfl,λx x'=>ih x (hk x x') hf⟩
 |getObj r k ih=>
  rintro R s' (hn|⟨r',k',rfl,hr,hk⟩) hf
  .exact .inl hn
  .exact .inr ⟨r',_,rfl,hr,λo o' ho=>ih o (hk o o' ho) hf⟩
 |setObj r o k ih=>
  rintro R s' (hn|⟨r',o',k',rfl,hr,ho,hk⟩) hf
  .exact .inl hn
  .exact .inr ⟨r',o',_,rfl,hr,ho,ih hk hf⟩
 |choose q k ih=>
  rintro R s' (hn|⟨k',rfl,hk⟩) hf
  .exact .inl hn
  .exact .inr ⟨_,rfl,λn=>ih n (hk n) hf⟩
 |sys c k ih=>
  rintro R s' (hn|h) hf
  .exact .inl hn
  .exact h.elim
 |program k ih=>
  rintro R s' (hn|⟨k',rfl,hk⟩) hf
  .exact .inl hn
  .exact .inr ⟨_,rfl,ih P.g hk hf⟩
 |mark m k ih=>
  rintro R s' (hn|⟨rfl,k',rfl,hk⟩) hf
  .exact .inl hn
  .exact .inr ⟨rfl,_,rfl,ih hk hf⟩
 |halt h=>
  rintro R s' (hn|hx) _
  .exact .inl hn
  .exact hx.elim
end
structure dB (S:aP->Prop)(K R:Pr)(G:Gp)(St:Nat->Prop)(w W:aE):Prop where
 inj:∀a b c,R.or K a b->R.or K a c->b=c
 inj':∀a b c,R.or K a c->R.or K b c->a=b
 lt:∀a b,R.or K a b->a<w.heap.size/\b<W.heap.size
 low:∀a b,R a b->(a<G.n↔b<G.n)/\(a<G.n->a=b)
 gle:G.n<=w.heap.size/\G.n<=W.heap.size
 cont:∀a b,R a b->∃o o',w.heap[a]? =some o/\W.heap[b]? =some o'/\o0 S K R o o'
 rest:∀a b,K a b->(∀c,¬R a c)->w.heap[a]? =some pK
 st:∀a,St a->(∃b,R a b)/\∃c T hi,w.heap[a]? =some (.cells c T (0,hi))/\c.size<=hi
 np:Db w
 tb:∀g,G.tab g=true->R g g
def Tp (w W:aE):Prop:=∀n q,w.tape (w.drawn+n) q=W.tape (W.drawn+n) q
def Ik (e:Event):Option Nat:=match e.loc with| .cell a=>some a.block| .obj r=>some r|_=>none
def Iq (R:Pr)(St:Nat->Prop)(e:Event):Prop:=
 e=⟨.mark .noRoom,false,true⟩\/∃b a,Ik e=some b/\R a b/\(e.write=true->¬St a)
variable {St:Nat->Prop}
theorem Iq.mono (h:R.le R'){e:Event}(x:Iq R St e):Iq R' St e:=by
 rcases x with x|⟨b,a,h1,h2,h3⟩
 .exact .inl x
 .exact .inr ⟨b,a,h1,h _ _ h2,h3⟩
structure nK (S:aP->Prop)(K R:Pr)(G:Gp)(St:Nat->Prop)(w W:aE)(R':Pr)(w' W':aE):Prop where
 le:R.le R'
 old:∀a b,R a b->a<w.heap.size/\b<W.heap.size
 rel:dB S K R' G St w' W'
 tape:w'.tape=w.tape/\W'.tape=W.tape
 drawn:∃d,w'.drawn=w.drawn+d/\W'.drawn=W.drawn+d
 os:w'.os=w.os/\W'.os=W.os
 ou:w'.output=w.output/\W'.output=W.output
 size:w.heap.size<=w'.heap.size/\W.heap.size<=W'.heap.size
 new:∀a b,R' a b->R a b\/(w.heap.size<=a/\W.heap.size<=b)
 full:∀b,W.heap.size<=b->b<W'.heap.size->∃a,R' a b/\w.heap.size<=a
 keep:∀b,b<W.heap.size->(∀a,R a b->St a)->W'.heap[b]? =W.heap[b]?
 still:∀a,St a->w'.heap[a]? =w.heap[a]?
 keepG:∀a,a<w.heap.size->(∀b,¬R a b)->w'.heap[a]? =w.heap[a]?
section
variable {P:dQ}{S:aP->Prop}{K R R' Re:Pr}{G:Gp}{St:Nat->Prop}{w W w' W' Gr zoI:aE}
def dB.ltR (h:dB S K R G St w W):∀a b,R a b->a<w.heap.size/\b<W.heap.size:=λa b x=>h.lt a b (.inl x)
def nK.refl (h:dB S K R G St w W):nK S K R G St w W R w W:=
 ⟨.refl R,h.ltR,h,⟨rfl,rfl⟩,⟨0,rfl,rfl⟩,⟨rfl,rfl⟩,⟨rfl,rfl⟩,⟨bM _,bM _⟩,λ_ _ h=>.inl h,λb h1 h2=>absurd h2 aC,λ_ _ _=>rfl,λ_ _=>rfl,λ_ _ _=>rfl⟩
theorem nK.trans (h:nK S K R G St w W R' w' W')(h':nK S K R' G St w' W' Re Gr zoI):nK S K R G St w W Re Gr zoI:=by
 obtain⟨d,d1,d2⟩:=h.drawn;obtain⟨e,e1,e2⟩:=h'.drawn;have s1:=h.size;have s2:=h'.size;refine⟨h.le.trans h'.le,h.old,h'.rel,⟨h'.tape.1.trans h.tape.1,h'.tape.2.trans h.tape.2⟩,⟨d+e,aC,aC⟩,⟨h'.os.1.trans h.os.1,h'.os.2.trans h.os.2⟩,⟨h'.ou.1.trans h.ou.1,h'.ou.2.trans h.ou.2⟩,⟨aC,aC⟩,?_,?_,?_,?_,?_⟩
 .intro a b x
  rcases h'.new a b x with x|⟨x,y⟩
  .exact h.new a b x
  omega
 .intro b x y
  rcases Nat.lt_or_ge b W'.heap.size with z|z
  .obtain⟨a,r,g⟩:=h.full b x z
   exact⟨a,h'.le a b r,g⟩
  .obtain⟨a,r,g⟩:=h'.full b z y
   grind
 .intro b x hk
  refine(h'.keep b aC λa r=>?_).trans (h.keep b x hk);rcases h.new a b r with r'|⟨_,r'⟩
  .exact hk a r'
  .omega
 .intro a x;exact(h'.still a x).trans (h.still a x)
 .intro a x y
  refine(h'.keepG a aC λb r=>?_).trans (h.keepG a x y);rcases h.new a b r with r'|⟨r',_⟩
  .exact y b r'
  .omega
end
section
variable {P:dQ}{S:aP->Prop}{K R R':Pr}{G:Gp}{St:Nat->Prop}{w W w' W':aE}
def zqs:(Mode.plain==Mode.atomic)=false:=rfl
variable {o:qN}
def zwD {w:aE}{a:Nat}(h:w.heap[a]? =some o):a<w.heap.size:=(eM.1 h).1
variable {o':qN}
theorem o0.live {S:aP->Prop}{K R:Pr}(h:o0 S K R o o'):∀c e,o≠ .pending c e:=by cases h<;>simp
theorem Db.set {w:aE}(h:Db w){a:Nat}(ho:∀c e,o≠ .pending c e):Db {w with heap:=w.heap.setIfInBounds a o}:=by
 intro b c e;by_cases hb:a=b
 .grind
 .simp only[tY hb];exact h b c e
theorem Db.push {w:aE}(h:Db w)(ho:∀c e,o≠ .pending c e):Db {w with heap:=w.heap.push o}:=by
 intro b c e;simp only[zlf];split
 .simp_all
 .exact h b c e
theorem nK.upd (h:dB S K R G St w W){a b:Nat}(r:R a b)(ns:¬St a)(ho:o0 S K R o o'):
 nK S K R G St w W R {w with heap:=w.heap.setIfInBounds a o} {W with heap:=W.heap.setIfInBounds b o'}:=by
 obtain⟨l1,l2⟩:=h.ltR a b r;refine⟨.refl R,h.ltR,⟨h.inj,h.inj',λx y z=>by simpa using h.lt x y z,h.low,by simpa using h.gle,λx y z=>?_,λx y' hx nf=>?_,λx sx=>?_,Db.set h.np ho.live,h.tb⟩,⟨rfl,rfl⟩,⟨0,rfl,rfl⟩,⟨rfl,rfl⟩,⟨rfl,rfl⟩,⟨aQ,aQ⟩,λ_ _ h=>.inl h,λx h1 h2=>absurd h2 pD,λx hx hk=>?_,λx sx=>?_,λx hx nf=>?_⟩
 .by_cases e:x=a
  .subst e
   have:=h.inj x y b (.inl z) (.inl r);simp_all
  .have e':y≠b:=λe'=>e (h.inj' x a b (.inl (e'▸z)) (.inl r))
   obtain⟨p,q,h1,h2,h3⟩:=h.cont x y z
   grind
 .have e:x≠a:=λe=>nf b (e▸r)
  have:=h.rest x _ hx nf
  grind
 .have e:x≠a:=λe=>ns (e▸sx)
  obtain⟨fx,c,T,hi,h1,h2⟩:=h.st x sx
  grind
 .grind
 .grind
 grind
theorem Zv {w:aE}{b o:Nat}{c:Array aF}{T:aM}{fz:Nat×Nat}(h:w.heap[b]? =some (.cells c T fz))(v:aF):
 w.setCell ⟨b,o,none⟩ v={w with heap:=w.heap.setIfInBounds b (.cells (c.setIfInBounds o v) T fz)}:=by
 have hl:=zwD h;have hb:w.heap[b]=.cells c T fz:=by simpa[qI hl] using h
 unfold zdp;congr 1
 grind
theorem nK.push (h:dB S K R G St w W)(ho:o0 S K R o o'):
 nK S K R G St w W (R.add w.heap.size W.heap.size) {w with heap:=w.heap.push o} {W with heap:=W.heap.push o'}:=by
 have l1:∀a b,R.or K a b->a≠w.heap.size:=λa b x e=>by have:=(h.lt a b x).1;omega
 have l2:∀a b,R.or K a b->b≠W.heap.size:=λa b x e=>by have:=(h.lt a b x).2;omega
 have g1:=h.gle;refine⟨Pr.le_add _ _ _,h.ltR,⟨?_,?_,?_,?_,pD,?_,?_,?_,Db.push h.np ho.live,λg hg=>.inl (h.tb g hg)⟩,⟨rfl,rfl⟩,⟨0,rfl,rfl⟩,⟨rfl,rfl⟩,⟨rfl,rfl⟩,⟨aQ,aQ⟩,?_,?_,?_,?_,?_⟩
 .rintro a b c ((x|⟨rfl,rfl⟩)|x) ((y|⟨e,rfl⟩)|y)
  .exact h.inj a b c (.inl x) (.inl y)
  .exact absurd e (l1 _ _ (.inl x))
  .exact h.inj a b c (.inl x) (.inr y)
  .exact absurd rfl (l1 _ _ (.inl y))
  .rfl
  .exact absurd rfl (l1 _ _ (.inr y))
  .exact h.inj a b c (.inr x) (.inl y)
  .exact absurd e (l1 _ _ (.inr x))
  .exact h.inj a b c (.inr x) (.inr y)
 .rintro a b c ((x|⟨rfl,rfl⟩)|x) ((y|⟨rfl,e⟩)|y)
  .exact h.inj' a b c (.inl x) (.inl y)
  .exact absurd e (l2 _ _ (.inl x))
  .exact h.inj' a b c (.inl x) (.inr y)
  .exact absurd rfl (l2 _ _ (.inl y))
  .rfl
  .exact absurd rfl (l2 _ _ (.inr y))
  .exact h.inj' a b c (.inr x) (.inl y)
  .exact absurd e (l2 _ _ (.inr x))
  .exact h.inj' a b c (.inr x) (.inr y)
 .rintro a b ((x|⟨rfl,rfl⟩)|x)
  .have:=h.lt a b (.inl x);simp;omega
  .simp
  .have:=h.lt a b (.inr x);simp;omega
 .rintro a b (x|⟨rfl,rfl⟩)
  .exact h.low a b x
  omega
 .rintro a b (x|⟨rfl,rfl⟩)
  .obtain⟨p,q,h1,h2,h3⟩:=h.cont a b x
   exact⟨p,q,by grind,by grind,h3.mono (Pr.le_add _ _ _)⟩
  .exact⟨o,o',aQ,aQ,ho.mono (Pr.le_add _ _ _)⟩
 .intro a b' ha nf
  have e:a≠w.heap.size:=λe=>nf _ (.inr ⟨e,rfl⟩);have hl:a<w.heap.size:=(h.lt a b' (.inr ha)).1;have:=h.rest a b' ha (λb f=>nf b (.inl f));rw[zrW hl,<-this,qI]
 .intro a sa
  obtain⟨⟨b,fa⟩,c,T,hi,h1,h2⟩:=h.st a sa;exact⟨⟨b,.inl fa⟩,c,T,hi,by rw[zrW (zwD h1),<-h1,qI],h2⟩
 .rintro a b (x|⟨rfl,rfl⟩)
  .exact .inl x
  omega
 .intro b x y
  simp only[Array.size_push] at y;obtain rfl:b=W.heap.size:=aC;exact⟨_,.inr ⟨rfl,rfl⟩,bM _⟩
 .grind
 .intro a sa
  obtain⟨fa,c,T,hi,h1,h2⟩:=h.st a sa
  grind
 grind
def nK.draw (h:dB S K R G St w W):nK S K R G St w W R {w with drawn:=w.drawn+1} {W with drawn:=W.drawn+1}:=
 ⟨.refl R,h.ltR,⟨h.inj,h.inj',h.lt,h.low,h.gle,h.cont,h.rest,h.st,h.np,h.tb⟩,⟨rfl,rfl⟩,⟨1,rfl,rfl⟩,⟨rfl,rfl⟩,⟨rfl,rfl⟩,⟨bM _,bM _⟩,λ_ _ h=>.inl h,λb h1 h2=>absurd h2 pD,λ_ _ _=>rfl,λ_ _=>rfl,λ_ _ _=>rfl⟩
theorem Tp.step (h:Tp w W)(s:nK S K R G St w W R' w' W'):Tp w' W':=by
 obtain⟨d,d1,d2⟩:=s.drawn;intro n q;rw[s.tape.1,s.tape.2,d1,d2,zcR,zcR];exact h (d+n) q
end
def Bb (P:dQ)(S:aP->Prop)(K:Pr){α β:Type}(A:Pr->α->β->Prop)(R:Pr)(G:Gp)(St:Nat->Prop)(w W:aE)(s':dA β)(x:α)(w':aE):Prop:=
 ∃R' x' W' ev,s'.run P.c W=.ok x' W'/\A R' x x'/\nK S K R G St w W R' w' W'/\(∀es,s'.events P.c W es=es++ev)/\∀e∈ev,Iq R' St e
variable {S:aP->Prop}{W w':aE}{e₁:Array Event}
theorem Bb.after {A:Pr->α->β->Prop}{zi2:Pr}{G:Gp}{aJ aY:aE}{s' s₁':dA β}{x:α}
 (wV:nK S K R G St w W zi2 aJ aY) (hr:s'.run P.c W=s₁'.run P.c aY) (he:∀es,s'.events P.c W es=s₁'.events P.c aY (es++e₁)) (bV:∀e∈e₁,Iq zi2 St e) (h:Bb P S K A zi2 G St aJ aY s₁' x w'):Bb P S K A R G St w W s' x w':=by
 obtain⟨R',x',W',ev,a,b,c,d,e⟩:=h;refine⟨R',x',W',e₁++ev,hr.trans a,b,wV.trans c,λes=>by simp_all,λy hy=>?_⟩;rcases Array.mem_append.1 hy with hy|hy
 .exact(bV y hy).mono c.le
 .exact e y hy
theorem o0.shape {G:Gp}(h:dB S K R G St w W){r r':Nat}(x:R r r'):W.shape? r'=w.shape? r:=by
 obtain⟨o,o',h1,h2,h3⟩:=h.cont r r' x;unfold zb9;rw[h1,h2]
 cases h3 with
 |cells hc _=>simp[hc.1]
 |_=>rfl
theorem dB.orR {G:Gp}(h:dB S K R G St w W){a b:Nat}(x:R.or K a b):R a b\/w.heap[a]? =some pK:=by
 by_cases e:∃c,R a c
 .obtain⟨c,e⟩:=e
  exact .inl (h.inj a b c x (.inl e)▸e)
 .exact .inr (h.rest a b (x.resolve_left λy=>e ⟨b,y⟩) (λc y=>e ⟨c,y⟩))
theorem aG.run {A:Pr->α->β->Prop}{G:Gp}(hG:G=P.gp){x:α}(s:dA α):
 ∀{R:Pr} {w W:aE} {s':dA β},aG P S K A s R s'->dB S K R G St w W->Tp w W->s.run P.g w=.ok x w'->Bb P S K A R G St w W s' x w':=by
 induction s with
 |pure a=>
  rintro R w W s' (hn|⟨b,rfl,h⟩) hw ht hr
  .exact absurd hr (hn.no hw.np _ _)
  simp only[bN,Result.ok.injEq] at hr;obtain⟨rfl,rfl⟩:=hr;exact⟨R,b,W,#[],rfl,h,.refl hw,λes=>by unfold yA;rw[Bt];simp,λe he=>by simp at he⟩
 |load m a k ih=>
  rintro R w W s' (hn|⟨rfl,a',k',rfl,ha,hk⟩) hw ht hr
  .exact absurd hr (hn.no hw.np _ _)
  obtain⟨qY⟩:=ha;rename_i b b' o sp
  .obtain⟨ob,Dq,h1,h2,h3⟩:=hw.cont b b' qY
   cases h3 with
   |cells hc hz=>
    rename_i c c' T fz Kk
    cases sp with
    |some sp=>simp[bN,lW,h1,zX,r8] at hr
    |none=>
     cases hv:c[o]? with
     |none=>simp[bN,lW,h1,zX,r8,hv] at hr
     |some v=>
      obtain⟨v',Mi,rI⟩:=hc.get hv;have e1:w.cell? ⟨b,o,none⟩=some v:=by simp[lW,h1,hv]
      have e2:W.cell? ⟨b',o,none⟩=some v':=by simp[lW,h2,Mi]
      rw[bN,e1] at hr;refine Bb.after (e₁:=#[⟨.cell ⟨b',o,none⟩,false,false⟩]) (.refl hw) (by rw[bN,e2]) (λes=>by unfold yA;rw[Bt,e2];simp[zqs]) ?_ (ih v (hk v v' rI) hw ht hr);intro e he;simp at he;subst he;exact .inr ⟨b',b,rfl,qY,aQ⟩
   |map x=>simp[bN,lW,h1,zX,r8] at hr
   |chan x=>simp[bN,lW,h1,zX,r8] at hr
   |stringIter x y=>simp[bN,lW,h1,zX,r8] at hr
   |mapIter x=>simp[bN,lW,h1,zX,r8] at hr
   |number x=>simp[bN,lW,h1,zX,r8] at hr
 |store m a v k ih=>
  rintro R w W s' (hn|⟨rfl,a',v',k',rfl,ha,hv,hk⟩) hw ht hr
  .exact absurd hr (hn.no hw.np _ _)
  obtain⟨qY⟩:=ha;rename_i b b' o sp;have Tv:∀cs,v≠ .agg cs:=by rintro cs rfl;simp[bN] at hr
  have F5:∀cs,v≠ .tuple cs:=by rintro cs rfl;simp[bN] at hr
  have zqz:∀cs,v'≠ .agg cs:=by rintro cs rfl;cases hv<;>first|exact Tv _ rfl|exact F5 _ rfl|(rename_i hh;exact hh.elim)
  have zqW:∀cs,v'≠ .tuple cs:=by rintro cs rfl;cases hv<;>first|exact F5 _ rfl|(rename_i hh;exact hh.elim)
  rw[bN] at hr
  rotate_left
  .exact λcs=>Tv cs
  .exact λcs=>F5 cs
  .obtain⟨ob,Dq,h1,h2,h3⟩:=hw.cont b b' qY
   cases h3 with
   |cells hc hz=>
    rename_i c c' T fz Kk
    cases sp with
    |some sp=>simp[lW,h1,Eu,r8] at hr
    |none=>
     cases gZ:c[o]? with
     |none=>simp[lW,h1,Eu,r8,gZ] at hr
     |some v0=>
      obtain⟨zDt,zJf,_⟩:=hc.get gZ;have e1:w.cell? ⟨b,o,none⟩=some v0:=by simp[lW,h1,gZ]
      have e2:W.cell? ⟨b',o,none⟩=some zDt:=by simp[lW,h2,zJf]
      rw[e1] at hr;simp only at hr
      cases oC:w.frozen? ⟨b,o,none⟩ with
      |true=>simp_all
      |false=>
       rw[oC] at hr;simp only[iA,if_false] at hr;have Xz:¬Lp fz o:=by
        intro⟨z1,z2⟩;simp[I8,h1,z1,z2] at oC
       have As:¬St b:=by
        intro hs;obtain⟨_,c2,T2,hi,g1,g2⟩:=hw.st b hs;rw[h1] at g1;injection g1 with g1;injection g1 with g1 _ g3;subst g1 g3;exact Xz ⟨lU _,jP (eM.1 gZ).1 g2⟩
       have zxP:W.frozen? ⟨b',o,none⟩=false:=by
        simp only[I8,h2]
        cases hq:(decide (Kk.1<=o)&&decide (o<Kk.2)) with
        |false=>rfl
        |true=>simp at hq;exact absurd (hz o hq) Xz
       rw[Zv h1] at hr;refine Bb.after (e₁:=#[⟨.cell ⟨b',o,none⟩,true,false⟩]) (nK.upd hw qY As (.cells (hc.set o hv) hz)) (s₁':=k') ?_ ?_ ?_ (ih hk (nK.upd hw qY As (.cells (hc.set o hv) hz)).rel (ht.step (nK.upd hw qY As (.cells (hc.set o hv) hz))) hr)
       .rw[bN]
        rotate_left
        .exact λcs=>zqz cs
        .exact λcs=>zqW cs
        rw[e2];simp only[zxP,iA,if_false];rw[Zv h2]
       .intro es
        unfold yA;rw[Bt]
        rotate_left
        .exact λcs=>zqz cs
        .exact λcs=>zqW cs
        rw[e2];simp only[zxP,iA,if_false];rw[Zv h2];simp[zqs]
       .intro e he
        simp at he;subst he;exact .inr ⟨b',b,rfl,qY,λ_=>As⟩
   |map x=>simp[lW,h1,Eu,r8] at hr
   |chan x=>simp[lW,h1,Eu,r8] at hr
   |stringIter x y=>simp[lW,h1,Eu,r8] at hr
   |mapIter x=>simp[lW,h1,Eu,r8] at hr
   |number x=>simp[lW,h1,Eu,r8] at hr
 |new o k ih=>
  rintro R w W s' (hn|⟨o',k',rfl,ho,hk⟩) hw ht hr
  .exact absurd hr (hn.no hw.np _ _)
  rw[bN] at hr;exact Bb.after (e₁:=#[]) (nK.push hw ho) Oj (λes=>by unfold yA;rw[Bt];simp) (λe he=>by simp at he) (ih _ (hk _ _ ⟨λb hb=>absurd (hw.lt _ _ hb).1 (J9 _),λa ha=>absurd (hw.lt _ _ ha).2 (J9 _),by subst hG;exact hw.gle⟩) (nK.push hw ho).rel (ht.step (nK.push hw ho)) hr)
 |shape r k ih=>
  rintro R w W s' (hn|⟨r',k',rfl,qS,hk⟩) hw ht hr
  .exact absurd hr (hn.no hw.np _ _)
  rw[bN] at hr;exact Bb.after (e₁:=#[]) (.refl hw) (by rw[bN,o0.shape hw qS]) (λes=>by unfold yA;rw[Bt,o0.shape hw qS];simp) (λe he=>by simp at he) (ih _ (hk _) hw ht hr)
 |freeze a n k ih=>
  rintro R w W s' (hn|h) hw ht hr
  .exact absurd hr (hn.no hw.np _ _)
  .exact h.elim
 |frozen a k ih=>
  rintro R w W s' (hn|⟨r',k',rfl,hk⟩) hw ht hr
  .exact absurd hr (hn.no hw.np _ _)
  rw[bN] at hr;exact Bb.after (e₁:=#[]) (.refl hw) Oj (λes=>by unfold yA;rw[Bt];simp) (λe he=>by simp at he) (ih _ (hk _ _) hw ht hr)
 |getObj r k ih=>
  rintro R w W s' (hn|⟨r',k',rfl,qS,hk⟩) hw ht hr
  .exact absurd hr (hn.no hw.np _ _)
  rw[bN] at hr
  .replace qS:R r r':=by
    rcases hw.orR qS with x|x
    .exact x
    .rw[x] at hr;simp[pK] at hr
   obtain⟨ob,Dq,h1,h2,h3⟩:=hw.cont r r' qS;rw[h1] at hr;have go:(∀c T fz,ob≠ .cells c T fz)->(∀c T fz,Dq≠ .cells c T fz)->Bb P S K A R G St w W (.getObj r' k') x w':=by
    intro n1 n2;refine Bb.after (e₁:=#[⟨.obj r',false,Dq.isChan⟩]) (.refl hw) (s₁':=k' Dq) ?_ ?_ ?_ (ih ob (hk _ _ h3) hw ht ?_)
    .rw[bN,h2];simp_all
    .intro es;unfold yA;rw[Bt,h2];simp_all
    .intro e he
     simp at he;subst he;exact .inr ⟨r',r,rfl,qS,aQ⟩
    .simp_all
   cases h3 with
   |cells hc hz=>simp at hr
   |map x=>simp_all
   |chan x=>simp_all
   |stringIter x y=>simp_all
   |mapIter x=>simp_all
   |number x=>simp_all
 |setObj r o k ih=>
  rintro R w W s' (hn|⟨r',o',k',rfl,qS,ho,hk⟩) hw ht hr
  .exact absurd hr (hn.no hw.np _ _)
  rw[bN] at hr
  .replace qS:R r r':=by
    rcases hw.orR qS with x|x
    .exact x
    .rw[x] at hr;simp[pK] at hr
   obtain⟨ob,Dq,h1,h2,h3⟩:=hw.cont r r' qS;rw[h1] at hr;have go:(∀c T fz,ob≠ .cells c T fz)->(∀c T fz,Dq≠ .cells c T fz)->Bb P S K A R G St w W (.setObj r' o' k') x w':=by
    intro n1 n2;have As:¬St r:=by
     intro hs;obtain⟨_,c2,T2,hi,g1,g2⟩:=hw.st r hs;rw[h1] at g1;injection g1 with g1;exact n1 _ _ _ g1
    refine Bb.after (e₁:=#[⟨.obj r',true,o'.isChan⟩]) (nK.upd hw qS As ho) (s₁':=k') ?_ ?_ ?_ (ih hk (nK.upd hw qS As ho).rel (ht.step (nK.upd hw qS As ho)) ?_)
    .rw[bN,h2];simp_all
    .intro es;unfold yA;rw[Bt,h2];simp_all
    .intro e he
     simp at he;subst he;exact .inr ⟨r',r,rfl,qS,λ_=>As⟩
    .simp_all
   cases h3 with
   |cells hc hz=>simp at hr
   |map x=>simp_all
   |chan x=>simp_all
   |stringIter x y=>simp_all
   |mapIter x=>simp_all
   |number x=>simp_all
 |choose q k ih=>
  rintro R w W s' (hn|⟨k',rfl,hk⟩) hw ht hr
  .exact absurd hr (hn.no hw.np _ _)
  rw[bN] at hr
  cases hq:q.forced with
  |true=>
   rw[hq] at hr;simp only[if_true] at hr;exact Bb.after (e₁:=#[]) (.refl hw) (by rw[bN,hq];simp) (λes=>by unfold yA;rw[Bt,hq];simp) (λe he=>by simp at he) (ih 0 (hk 0) hw ht hr)
  |false=>
   rw[hq] at hr;simp only[iA,if_false] at hr;have ea:w.tape w.drawn q=W.tape W.drawn q:=ht 0 q;rw[ea] at hr;exact Bb.after (e₁:=#[]) (nK.draw hw) (by rw[bN,hq];simp) (λes=>by unfold yA;rw[Bt,hq];simp) (λe he=>by simp at he) (ih _ (hk _) (nK.draw hw).rel (ht.step (nK.draw hw)) hr)
 |sys c k ih=>
  rintro R w W s' (hn|h) hw ht hr
  .exact absurd hr (hn.no hw.np _ _)
  .exact h.elim
 |program k ih=>
  rintro R w W s' (hn|⟨k',rfl,hk⟩) hw ht hr
  .exact absurd hr (hn.no hw.np _ _)
  rw[bN] at hr;exact Bb.after (e₁:=#[]) (.refl hw) Oj (λes=>by unfold yA;rw[Bt];simp) (λe he=>by simp at he) (ih _ hk hw ht hr)
 |mark m k ih=>
  rintro R w W s' (hn|⟨rfl,k',rfl,hk⟩) hw ht hr
  .exact absurd hr (hn.no hw.np _ _)
  .rw[bN] at hr
   exact Bb.after (e₁:=#[⟨.mark .noRoom,false,true⟩]) (.refl hw) Oj (λes=>by unfold yA;rw[Bt];simp) (λe he=>by simp at he;exact .inl he) (ih hk hw ht hr)
 |halt h=>simp_all
section
variable {P:dQ}{S:aP->Prop}{K:Pr}{α β γ δ:Type}{R:Pr}
abbrev l7 {α:Type}:Pr->α->α->Prop:=λ_ a b=>a=b
abbrev VA (S:aP->Prop)(K:Pr):Pr->aF->aF->Prop:=λR v v'=>VR S K R v v'
def aG.bnd {A:Pr->α->β->Prop}{B:Pr->γ->δ->Prop}{s:dA α}{s':dA β}{f:α->dA γ}{f':β->dA δ}(h:aG P S K A s R s')(hf:∀R',y7 P K R R'->∀a b,A R' a b->aG P S K B (f a) R' (f' b)):
 aG P S K B (s>>=f) R (s'>>=f'):=aG.bind h hf
def aG.ret {A:Pr->α->β->Prop}{a:α}{b:β}(h:A R a b):aG P S K A (mF a:dA α) R (mF b:dA β):=aG.pure h
def bR {Vh:String}:fF P (stuck Vh:dA α):=fF.halt trivial
variable {u:Unsupported}
theorem jT (hu:Zz (.unsupported u):=by trivial):fF P (unsupported u:dA α):=fF.halt hu
variable {v:aF}
def zfG :fF P (goPanic v:dA α):=fF.halt trivial
def fF.bnd {s:dA α}(h:fF P s)(f:α->dA β):fF P (s>>=f):=h.bind f
def nV (P:dQ)(s:dA α):Prop:=∀w,Db w->(∃a w',s.run P.g w=.ok a w'/\Db w')\/∃h w',s.run P.g w=.halt h w'/\Zz h
def nV.never {s:dA α}(h:fF P s):nV P s:=λw hw=>.inr (h w hw)
def nV.ret (a:α):nV P (mF a:dA α):=λw hw=>.inl ⟨a,w,rfl,hw⟩
theorem nV.bnd {s:dA α}{f:α->dA β}(h:nV P s)(hf:∀a,nV P (f a)):nV P (s>>=f):=by
 intro w hw;have e:(s>>=f).run P.g w=_:=vD P.g s f w;rcases h w hw with⟨a,w',h1,h2⟩|⟨y,w',h1,h2⟩
 .rcases hf a w' h2 with⟨b,w2,h3,h4⟩|⟨y,w2,h3,h4⟩
  .exact .inl ⟨b,w2,by rw[e,h1];exact h3,h4⟩
  simp_all
 simp_all
def zof:nV P program:=λw hw=>.inl ⟨P.g,w,rfl,hw⟩
theorem zj0 (q:Question):nV P (choose q):=λw hw=>by
 unfold choose bN;split
 .exact .inl ⟨0,w,rfl,hw⟩
 .exact .inl ⟨_,_,rfl,hw⟩
def zCp (r:Nat):nV P (shape r):=λw hw=>.inl ⟨_,w,rfl,hw⟩
variable {o:qN}
def zCw (ho:∀c e,o≠ .pending c e):nV P (newObj o):=λw hw=>.inl ⟨_,_,rfl,Db.push hw ho⟩
theorem zzQ (t:aM):nV P (underlying t):=by
 unfold underlying;refine zof.bnd λp=>?_;split
 .exact nV.ret _
 .exact .never bR
theorem zEa (t:aM)(v:aF):nV P (newVar t v):=by
 unfold newVar newRow;exact(zCw aQ).bnd λ_=>nV.ret _
theorem zBe (t:aM):nV P (elemOf t):=by
 unfold elemOf;refine(zzQ t).bnd λd=>?_;split
 .exact nV.ret _
 .exact .never bR
def zCJ (a:bC):nV P (frozen a):=λw hw=>.inl ⟨_,w,rfl,hw⟩
def zBq (m:Mark):nV P (mark m):=λw hw=>.inl ⟨_,w,rfl,hw⟩
theorem zvM (a:bC)(n:Nat):nV P (zoa a n):=by
 unfold zoa;refine(zCp _).bnd λx=>?_;split<;>exact nV.ret _
theorem zC1 (size zaJ n:Nat)(base:Option bC)(x:aF):nV P (zyj size zaJ n base x):=by
 unfold zyj;have tail:∀b:Bool,nV P (match x with
  | .slice (some b) _ _=>do pure (!(<-zoa b (n*size))||base.any (·.block==b.block))
  |_=>pure false:dA Bool):=λ_=>by
  split
  .exact(zvM _ _).bnd λ_=>nV.ret _
  .exact nV.ret _
 cases base with
 |none=>
  refine(nV.ret true).bnd λthere=>?_;cases there
  .exact nV.ret _
  .exact tail true
 |some a=>
  refine(zvM _ _).bnd λh1=>(zCJ _).bnd λh2=>?_;refine(nV.ret _).bnd λthere=>?_;cases there
  .exact nV.ret _
  .exact tail true
theorem fF.then {s:dA α}{f:α->dA β}(hs:nV P s)(h:∀a,fF P (f a)):fF P (s>>=f):=by
 intro w hw;have e:(s>>=f).run P.g w=_:=vD P.g s f w;rcases hs w hw with⟨a,w',h1,h2⟩|⟨y,w',h1,h2⟩
 .obtain⟨y,w2,h3,h4⟩:=h a w' h2
  simp_all
 simp_all
variable {e:RuntimeError}
theorem wA :fF P (runtimePanic e:dA α):=by
 unfold runtimePanic;refine fF.then zof λp=>?_;cases e<;>first|exact zfG|(refine fF.then (zBe _) λ_=>?_;refine fF.then (zEa _ _) λ_=>?_;exact zfG)
theorem Zd {k:Dr}{x y:Int}{c:zmJ}:fF P (boundsPanic k x y c:dA α):=by
 unfold boundsPanic;simp only;split
 .refine fF.then ?_ λ_=>wA
  exact(zj0 _).bnd λ_=>nV.ret _
 .exact fF.then (nV.ret _) λ_=>wA
def U1:aG P S K (λ_ a b=>a=P.g/\b=P.c) program R program:=.inr ⟨_,rfl,.inr ⟨P.c,rfl,rfl,rfl⟩⟩
def zgh (q:Question):aG P S K l7 (choose q) R (choose q):=.inr ⟨_,rfl,λn=>.inr ⟨n,rfl,rfl⟩⟩
theorem mX (t:aM):aG P S K (λ_ a b=>a=b/\P.underlying t=some a) (underlying t) R (underlying t):=by
 unfold underlying;refine aG.bnd U1 ?_;rintro R' _ a b ⟨ha,hb⟩;rw[ha,hb,P.underlying_g]
 cases h:P.c.underlying t with
 |some d=>exact aG.ret ⟨rfl,h⟩
 |none=>exact .inl bR
theorem Fh (t:aM):aG P S K (λ_ a b=>a=b/\P.info? t=some a) (typeInfo t) R (typeInfo t):=by
 unfold typeInfo;refine aG.bnd U1 ?_;rintro R' _ a b ⟨ha,hb⟩;rw[ha,hb,P.info_g]
 cases h:P.c.info? t with
 |some d=>exact aG.ret ⟨rfl,h⟩
 |none=>exact .inl bR
def Ks (P:dQ)(S:aP->Prop):Prop:=∀(K R:Pr) t i z,P.info? t=some i->i.zero=some z->VR S K R z z
theorem Qq (hz:Ks P S)(t:aM):aG P S K (VA S K) (zeroValue t) R (zeroValue t):=by
 unfold zeroValue;refine aG.bnd (Fh t) ?_;rintro R' _ a b ⟨rfl,h⟩
 cases h2:a.zero with
 |some z=>exact aG.ret (hz K R' t a z h h2)
 |none=>exact .inl jT
theorem Br (t:aM):aG P S K l7 (sizeOf t) R (sizeOf t):=by
 unfold sizeOf;refine aG.bnd (Fh t) ?_;rintro R' _ a b ⟨rfl,h⟩;exact aG.ret rfl
theorem zx4 (t:aM):aG P S K l7 (isAgg t) R (isAgg t):=by
 unfold isAgg;refine aG.bnd (mX t) ?_;rintro R' _ a b ⟨rfl,h⟩;cases a<;>exact aG.ret rfl
variable {v':aF}
theorem zgZ (h:VR S K R v v'):aG P S K l7 (asIntOf v) R (asIntOf v'):=by
 cases h with
 |int k n=>exact aG.ret rfl
 |pointer x=>cases x<;>first|exact .inl jT|exact .inl bR
 |_=>exact .inl bR
theorem Xg (h:VR S K R v v'):aG P S K l7 (asInt v) R (asInt v'):=by
 unfold asInt;refine aG.bnd (zgZ h) ?_;rintro R' _ a b rfl;exact aG.ret rfl
theorem zsF (h:VR S K R v v'):aG P S K l7 (asBool v) R (asBool v'):=by
 cases h with
 |bool b=>exact aG.ret rfl
 |_=>exact .inl bR
theorem zvL (h:VR S K R v v'):aG P S K (λR a b=>fT R a b) (asAddr v) R (asAddr v'):=by
 cases h with
 |pointer x=>
  cases x with
  |none=>exact .inl (by unfold asAddr;exact wA)
  |some x=>exact aG.ret x
 |_=>exact .inl bR
theorem zbN (h:VR S K R v v'):aG P S K (λR a b=>fT R a b) (ztg v) R (ztg v'):=by
 cases h with
 |pointer x=>
  cases x with
  |none=>exact .inl bR
  |some x=>exact aG.ret x
 |_=>exact .inl bR
variable {a a':bC}
def zxa (h:fT R a a'):aG P S K (VA S K) (load a) R (load a'):=.inr ⟨rfl,a',_,rfl,h,λv v' hv=>.inr ⟨v',rfl,hv⟩⟩
def zD5 (h:fT R a a')(hv:VR S K R v v'):aG P S K l7 (store a v) R (store a' v'):=.inr ⟨rfl,a',v',_,rfl,h,hv,.inr ⟨(),rfl,rfl⟩⟩
variable {o':qN}
def zhY (h:o0 S K R o o'):aG P S K (λR a b=>R a b) (newObj o) R (newObj o'):=.inr ⟨o',_,rfl,h,λn n' _=>.inr ⟨n',rfl,.inr ⟨rfl,rfl⟩⟩⟩
variable {r r':Nat}
def zc6 (h:R r r'):aG P S K l7 (shape r) R (shape r'):=.inr ⟨r',_,rfl,h,λx=>.inr ⟨x,rfl,rfl⟩⟩
def Vb (h:R r r'):aG P S K (λR o o'=>o0 S K R o o') (getObj r) R (getObj r'):=.inr ⟨r',_,rfl,.inl h,λo o' ho=>.inr ⟨o',rfl,ho⟩⟩
def zbJ (h:R r r')(ho:o0 S K R o o'):aG P S K l7 (setObj r o) R (setObj r' o'):=.inr ⟨r',o',_,rfl,.inl h,ho,.inr ⟨(),rfl,rfl⟩⟩
def ztC (h:R.or K r r'):aG P S K (λR o o'=>o0 S K R o o') (getObj r) R (getObj r'):=.inr ⟨r',_,rfl,h,λo o' ho=>.inr ⟨o',rfl,ho⟩⟩
theorem znY (n:Nat):aG P S K l7 (askRoom n) R (askRoom n):=by
 unfold askRoom;split
 .exact .inr ⟨rfl,_,rfl,.inr ⟨(),rfl,rfl⟩⟩
 .exact aG.ret rfl
theorem fT.add (h:fT R a a')(n:Nat):fT R (a.add n) (a'.add n):=by
 cases h with
 |mk h=>unfold zfA;split<;>exact .mk h
theorem yB.map {a a':Option bC}(h:yB R a a')(n:Nat):yB R (a.map (·.add n)) (a'.map (·.add n)):=by
 cases h with
 |none=>exact .none
 |some h=>exact .some (h.add n)
theorem zyv :∀(n i:Nat) {R:Pr} {acc zf9:Array aF},fT R a a'->bQ S K R acc zf9->aG P S K (λR x y=>bQ S K R x y) (loadCellsFrom a i n acc) R (loadCellsFrom a' i n zf9)
 |0,i,R,acc,zf9,h,hc=>aG.ret hc
 |n+1,i,R,acc,zf9,h,hc=>by
  unfold loadCellsFrom;refine aG.bnd (zxa (h.add i)) ?_;intro R' hR v v' hv;exact zyv n (i+1) (h.mono hR.le) ((hc.mono hR.le).push hv)
def zmN (h:fT R a a')(n:Nat):aG P S K (λR x y=>bQ S K R x y) (loadCells a n) R (loadCells a' n):=zyv n 0 h bQ.empty
def xW (S:aP->Prop)(K R:Pr)(xs cC:List aF):Prop:=xs.length=cC.length/\∀(i:Nat) (v v':aF),xs[i]? =some v->cC[i]? =some v'->VR S K R v v'
theorem bQ.toList {xs cC:Array aF}(h:bQ S K R xs cC):xW S K R xs.toList cC.toList:=⟨by simpa using h.1,λi v v' h1 h2=>h.2 i v v' zag Zw⟩
variable {xs cC:List aF}
def xW.mono {R':Pr}(hR:R.le R')(h:xW S K R xs cC):xW S K R' xs cC:=⟨h.1,λi v v' h1 h2=>(h.2 i v v' h1 h2).mono hR⟩
theorem xW.cons {x x':aF}(h:xW S K R (x::xs) (x'::cC)):VR S K R x x'/\xW S K R xs cC:=
 ⟨h.2 0 x x' rfl rfl,by simpa using h.1,λi v v' h1 h2=>h.2 (i+1) v v' zag Zw⟩
theorem Xx :∀(vs zhj:List aF) (i:Nat) {R:Pr},fT R a a'->xW S K R vs zhj->aG P S K l7 (storeCells a vs i) R (storeCells a' zhj i)
 |[],[],i,R,h,hv=>aG.ret rfl
 |[],_::_,i,R,h,hv=>by have:=hv.1;simp at this
 |_::_,[],i,R,h,hv=>by have:=hv.1;simp at this
 |v::vs,v'::zhj,i,R,h,hv=>by
  unfold storeCells;obtain⟨h1,h2⟩:=hv.cons;refine aG.bnd (zD5 (h.add i) h1) ?_;intro R' hR _ _ _;exact Xx vs zhj (i+1) (h.mono hR.le) (h2.mono hR.le)
theorem zpt (t:aM)(h:fT R a a'):aG P S K (VA S K) (loadVar t a) R (loadVar t a'):=by
 unfold loadVar;refine aG.bnd (zx4 t) ?_;rintro R1 h1 b _ rfl
 cases b with
 |true=>
  simp only[if_true];refine aG.bnd (Br t) ?_;rintro R2 h2 n _ rfl;refine aG.bnd (zmN ((h.mono h1.le).mono h2.le) n) ?_;intro R3 h3 x y zCa;exact aG.ret (VR.agg' zCa)
 |false=>simpa using zxa (h.mono h1.le)
theorem zAG (t:aM)(h:fT R a a')(hv:VR S K R v v'):aG P S K l7 (storeVar t a v) R (storeVar t a' v'):=by
 unfold storeVar;refine aG.bnd (Br t) ?_;rintro R1 h1 n _ rfl;have hc:=hv.cells;rw[<-hc.1];split
 .exact .inl (bR.bnd _)
 .exact Xx _ _ 0 (h.mono h1.le) ((hc.mono h1.le).toList)
variable {c c':Array aF}
theorem zcf (e:aM)(h:bQ S K R c c'):aG P S K (λR a b=>fT R a b) (newRow e c) R (newRow e c'):=by
 unfold newRow;refine aG.bnd (zhY (.cells h λo ho=>ho)) ?_;intro R1 h1 n n' hn;exact aG.ret (.mk hn)
def zqY (t:aM)(h:VR S K R v v'):aG P S K (λR a b=>fT R a b) (newVar t v) R (newVar t v'):=zcf t h.cells
theorem zD3 (t:aM)(h:bQ S K R c c')(off:Nat):aG P S K (VA S K) (part t c off) R (part t c' off):=by
 unfold part;refine aG.bnd (zx4 t) ?_;rintro R1 h1 b _ rfl
 cases b with
 |true=>
  simp only[if_true];refine aG.bnd (Br t) ?_;rintro R2 h2 n _ rfl;exact aG.ret (VR.agg' (((h.mono h1.le).mono h2.le).extract _ _))
 |false=>
  simp only[iA,if_false]
  cases hc:c[off]? with
  |none=>exact .inl bR
  |some v=>obtain⟨v',Mi,rI⟩:=(h.mono h1.le).get hc;rw[Mi];exact aG.ret rI
end
section
variable {P:dQ}{S:aP->Prop}{K:Pr}{α β γ δ:Type}{R:Pr}
theorem zHl (hz:Ks P S)(e:aM):aG P S K (VA S K) (zk2 e true (.tuple #[])) R (zk2 e true (.tuple #[])):=by
 unfold zk2;refine aG.bnd (Qq hz e) ?_;intro R1 h1 z z' pY;refine aG.bnd (zqY e pY) ?_;intro R2 h2 a a' ha;exact aG.ret (.pointer (.some ha))
variable {v v':aF}
theorem sim_box (e:aM)(h:VR S K R v v'):aG P S K (VA S K) (zop e v) R (zop e v'):=by
 unfold zop;refine aG.bnd (zqY e h) ?_;intro R2 h2 a a' ha;exact aG.ret (.pointer (.some ha))
theorem zDo (t:aM)(h:VR S K R v v'):aG P S K (VA S K) (zoi t v) R (zoi t v'):=by
 unfold zoi;refine aG.bnd (zbN h) ?_;intro R1 h1 a a' ha;exact zpt t ha
theorem zzG (t:aM){a a':aF}(h:VR S K R a a')(hv:VR S K R v v'):aG P S K l7 (ziO t a v) R (ziO t a' v'):=by
 unfold ziO;refine aG.bnd (zbN h) ?_;intro R1 h1 a a' ha;exact zAG t ha (hv.mono h1.le)
theorem zwf {r r':Nat}(h:R r r'):aG P S K (λ_ a b=>a=none/\b=none) (viewAt r) R (viewAt r'):=by
 unfold viewAt;refine aG.bnd (zc6 h) ?_;rintro R1 h1 x _ rfl
 cases x with
 |some x=>exact aG.ret ⟨rfl,rfl⟩
 |none=>
  refine aG.bnd (Vb (h1.le _ _ h)) ?_;intro R2 h2 o o' ho;cases ho<;>exact aG.ret ⟨rfl,rfl⟩
variable {a a':bC}
theorem zFk (h:fT R a a'):aG P S K l7 (noView a) R (noView a'):=by
 cases h with
 |mk h=>
  unfold noView;refine aG.bnd (zwf h) ?_;rintro R1 h1 _ _ ⟨rfl,rfl⟩;exact aG.ret rfl
theorem Ub (h:fT R a a'):aG P S K l7 (byteOf a) R (byteOf a'):=by
 have h0:=h
 cases h with
 |mk h=>
  rename_i b b' o sp;unfold byteOf
  cases sp with
  |some s=>exact aG.ret rfl
  |none=>
   refine aG.bnd U1 ?_;rintro R1 h1 p q ⟨rfl,rfl⟩;refine aG.bnd (zFk (h0.mono h1.le)) ?_;rintro R2 h2 _ _ _;refine aG.bnd (zc6 (h2.le _ _ (h1.le _ _ h))) ?_;rintro R3 h3 x _ rfl
   cases x with
   |none=>exact .inl bR
   |some x=>
    obtain⟨e,n⟩:=x;simp only[P.cells_g,P.bytes_g,P.depth_g,P.byteOfCell_g];split
    .exact aG.ret rfl
    .split
     .exact aG.ret rfl
     .exact .inl bR
theorem zGc (h:fT R a a')(c b:Nat):aG P S K (λR a b=>fT R a b) (partAt a c b) R (partAt a' c b):=by
 unfold partAt;refine aG.bnd (Ub h) ?_;rintro R1 h1 n _ rfl;have h':=h.mono h1.le
 cases h' with
 |mk h'=>
  refine aG.bnd (Ub (.mk h')) ?_;rintro R2 h2 m _ rfl;split<;>exact aG.ret (.mk (h2.le _ _ h'))
theorem zCH (h:fT R a a')(f:Field):aG P S K (λR a b=>fT R a b) (fieldPlace a f) R (fieldPlace a' f):=by
 unfold fieldPlace;refine aG.bnd (Br f.type) ?_;rintro R1 h1 n _ rfl;split
 .exact zGc (h.mono h1.le) _ _
 .exact aG.ret ((h.mono h1.le).add _)
theorem zHq (s:aM)(h:VR S K R v v')(f:Nat):aG P S K (VA S K) (zod s v f) R (zod s v' f):=by
 unfold zod;refine aG.bnd (mX s) ?_;rintro R1 h1 d _ ⟨rfl,hd⟩
 cases d with
 |struct fields=>
  simp only
  cases hf:fields[f]? with
  |none=>exact .inl bR
  |some fl=>
   refine aG.bnd (zbN (h.mono h1.le)) ?_;intro R2 h2 a a' ha;refine aG.bnd (zCH ha fl) ?_;intro R3 h3 b b' hb;exact aG.ret (.pointer (.some hb))
 |_=>exact .inl bR
def zle (t:aM)(k:Dr)(i:Int)(b:Option bC)(len:Nat)(elem:aM):dA Value:=do
 let tiny:=len<=1&&(match<-underlying t with| .array .. =>true|_=>false)
 match b with
 |some a=>
  if 0<=i/\i<len then pure (.pointer (some (a.add (i.toNat*(<-sizeOf elem)))))
  else if tiny then unsupported (.noEntry "op/indexAddr.an index out of range at an array of length 0 or 1 (ledger 616)")
  else boundsPanic k i len .index
 |none=>boundsPanic k i 0 .index
theorem zo3 (t:aM)(k:Dr)(i:Int){b b':Option bC}(h:yB R b b')(len:Nat)(elem:aM):aG P S K (VA S K) (zle t k i b len elem) R (zle t k i b' len elem):=by
 unfold zle;refine aG.bnd (mX t) ?_;rintro R3 h3 d _ ⟨rfl,hd⟩;have bY:=h.mono h3.le
 cases bY with
 |none=>exact .inl Zd
 |some ha=>
  simp only;split
  .refine aG.bnd (Br elem) ?_
   rintro R4 h4 sz _ rfl;exact aG.ret (.pointer (.some ((ha.mono h4.le).add _)))
  .refine .inl ?_
   split<;>first|exact jT|exact Zd|(split<;>first|exact jT|exact Zd)
theorem zHB (t:aM){i i':aF}(h:VR S K R v v')(hi:VR S K R i i'):aG P S K (VA S K) (zl0 t v i) R (zl0 t v' i'):=by
 unfold zl0;refine aG.bnd (zgZ hi) ?_;rintro R1 h1 ⟨k,n⟩ _ rfl;refine aG.bnd (mX t) ?_;rintro R2 h2 d _ ⟨rfl,hd⟩;have hv:=(h.mono h1.le).mono h2.le
 cases d with
 |array len elem=>
  refine aG.bnd (zbN hv) ?_;intro R3 h3 a a' ha;exact zo3 t k n (.some ha) len elem
 |slice elem=>
  cases hv with
  |slice ho=>exact zo3 t k n ho _ elem
  |_=>exact .inl (bR.bnd _)
 |_=>exact .inl (bR.bnd _)
theorem zzn (t:aM){i i':aF}(h:VR S K R v v')(hi:VR S K R i i'):aG P S K (VA S K) (zlZ t v i) R (zlZ t v' i'):=by
 unfold zlZ;refine aG.bnd (zgZ hi) ?_;rintro R1 h1 ⟨k,n⟩ _ rfl;refine aG.bnd (mX t) ?_;rintro R2 h2 d _ ⟨rfl,hd⟩;have hv:=(h.mono h1.le).mono h2.le
 cases d with
 |array len elem=>
  cases hv with
  |agg e hc=>
   simp only;split
   .refine aG.bnd (Br elem) ?_
    rintro R3 h3 sz _ rfl;exact zD3 elem (bQ.mono h3.le ⟨e,hc⟩) _
   .exact .inl Zd
  |_=>exact .inl bR
 |string=>
  cases hv with
  |string s=>
   simp only;split
   .exact aG.ret (.int _ _)
   .exact .inl Zd
  |_=>exact .inl bR
 |_=>exact .inl bR
theorem zdO (h:VR S K R v v')(y:Nat)(c:zmJ):aG P S K l7 (L0 v y c) R (L0 v' y c):=by
 unfold L0;refine aG.bnd (zgZ h) ?_;rintro R1 h1 ⟨k,n⟩ _ rfl;simp only;split
 .exact aG.ret rfl
 .exact .inl Zd
inductive Ax (S:aP->Prop)(K R:Pr):Option aF->Option aF->Prop
 |none:Ax S K R none none
 |some {v v':aF}:VR S K R v v'->Ax S K R (some v) (some v')
theorem Ax.mono {R':Pr}(h:R.le R'){v v':Option aF}(x:Ax S K R v v'):Ax S K R' v v':=by cases x with|none=>exact .none|some x=>exact .some (x.mono h)
variable {xY lS zah:Option aF}
theorem zhT (b:Bool)(len cap:Nat){lo hi mx:Option aF}(hl:Ax S K R lo xY)(hh:Ax S K R hi lS)(hm:Ax S K R mx zah):
 aG P S K l7 (Y8 b len cap lo hi mx) R (Y8 b len cap xY lS zah):=by
 have nd:∀{R1:Pr},y7 P K R R1->∀(m h:Nat) (c:zmJ),aG P S K (l7 (α:=Nat×Nat×Nat)) (match lo with|some v=>(do let l<-L0 v h c;pure (l,h,m))|none=>pure (0,h,m)) R1 (match xY with|some v=>(do let l<-L0 v h c;pure (l,h,m))|none=>pure (0,h,m)):=by
  intro R1 h1 m h c
  cases hl with
  |none=>exact aG.ret rfl
  |some z=>
   refine aG.bnd (zdO (z.mono h1.le) h c) ?_;rintro R2 h2 l _ rfl;exact aG.ret rfl
 unfold Y8
 cases hm with
 |none=>
  cases hh with
  |none=>cases hl with
   |none=>exact aG.ret rfl
   |some z=>exact nd (y7.refl R) cap len (if(none:Option aF).isSome then .slice3C else .sliceB)
  |some x=>
   refine aG.bind (α:=Nat) (A:=l7) (s:=L0 _ cap (if b then .sliceAcap else .sliceAlen)) (s':=L0 _ cap (if b then .sliceAcap else .sliceAlen)) (zdO x _ _) ?_;rintro R2 h2 h _ rfl
   cases hl with
   |none=>exact aG.ret rfl
   |some z=>simp_all
 |some y=>
  refine aG.bnd (zdO y _ _) ?_;rintro R1 h1 m _ rfl
  cases hh with
  |none=>exact .inl (bR.bnd _)
  |some x=>
   refine aG.bnd (zdO (x.mono h1.le) _ _) ?_;rintro R2 h2 h _ rfl
   cases hl with
   |none=>exact aG.ret rfl
   |some z=>
    refine aG.bnd (zdO ((z.mono h1.le).mono h2.le) _ _) ?_;rintro R3 h3 l _ rfl;exact aG.ret rfl
theorem zzB (t:aM){lo hi mx:Option aF}(h:VR S K R v v')(hl:Ax S K R lo xY)(hh:Ax S K R hi lS)(hm:Ax S K R mx zah):
 aG P S K (VA S K) (Wo t v lo hi mx) R (Wo t v' xY lS zah):=by
 unfold Wo;refine aG.bnd (mX t) ?_;rintro R1 h1 d _ ⟨rfl,hd⟩;have hv:=h.mono h1.le
 cases d with
 |string=>
  cases hv with
  |string s=>
   simp only
   cases hm with
   |some y=>exact .inl (bR.bnd _)
   |none=>
    refine aG.bnd (zhT _ _ _ (hl.mono h1.le) (hh.mono h1.le) .none) ?_;rintro R2 h2 ⟨l,h,m⟩ _ rfl;exact aG.ret (.string _)
  |_=>exact .inl bR
 |slice elem=>
  cases hv with
  |slice ho=>
   refine aG.bnd (zhT _ _ _ (hl.mono h1.le) (hh.mono h1.le) (hm.mono h1.le)) ?_;rintro R2 h2 ⟨l,h,m⟩ _ rfl;refine aG.bnd (Br elem) ?_;rintro R3 h3 sz _ rfl;refine aG.ret (.slice ?_);split
   .exact(ho.mono h2.le).mono h3.le
   .exact((ho.mono h2.le).mono h3.le).map _
  |_=>exact .inl bR
 |pointer arr=>
  refine aG.bnd (zvL hv) ?_;intro R2 h2 a a' ha;refine aG.bnd (mX arr) ?_;rintro R3 h3 d _ ⟨rfl,hd⟩
  cases d with
  |array n elem=>
   refine aG.bnd (zhT _ _ _ (((hl.mono h1.le).mono h2.le).mono h3.le) (((hh.mono h1.le).mono h2.le).mono h3.le) (((hm.mono h1.le).mono h2.le).mono h3.le)) ?_;rintro R4 h4 ⟨l,h,m⟩ _ rfl;refine aG.bnd (Br elem) ?_;rintro R5 h5 sz _ rfl;refine aG.ret (.slice (.some ?_));have fY:=((ha.mono h3.le).mono h4.le).mono h5.le;split
   .exact fY
   .exact fY.add _
  |_=>exact .inl bR
 |_=>exact .inl bR
theorem zzf (t:aM){lo hi mx:Option aF}(h:VR S K R v v')(hl:Ax S K R lo xY)(hh:Ax S K R hi lS)(hm:Ax S K R mx zah):
 aG P S K (VA S K) (Yx t v lo hi mx) R (Yx t v' xY lS zah):=by
 unfold Yx;refine aG.bnd (mX t) ?_;rintro R1 h1 d _ ⟨rfl,hd⟩
 cases d with
 |array n elem=>
  refine aG.bnd (zbN (h.mono h1.le)) ?_;intro R2 h2 a a' ha;refine aG.bnd (zhT _ _ _ ((hl.mono h1.le).mono h2.le) ((hh.mono h1.le).mono h2.le) ((hm.mono h1.le).mono h2.le)) ?_;rintro R4 h4 ⟨l,h,m⟩ _ rfl;refine aG.bnd (Br elem) ?_;rintro R5 h5 sz _ rfl;refine aG.ret (.slice (.some ?_));have fY:=(ha.mono h4.le).mono h5.le;split
  .exact fY
  .exact fY.add _
 |_=>exact zzB t (h.mono h1.le) (hl.mono h1.le) (hh.mono h1.le) (hm.mono h1.le)
theorem zFW (h:VR S K R v v')(i:Nat):aG P S K (VA S K) (zlr v i) R (zlr v' i):=by
 unfold zlr
 cases h with
 |tuple e hc=>
  rename_i xs cC;simp only
  cases hq:xs[i]? with
  |none=>exact .inl bR
  |some u=>
   obtain⟨u',Od,zch⟩:=bQ.get ⟨e,hc⟩ hq;rw[Od];exact aG.ret zch
 |_=>exact .inl bR
theorem zFQ (t:aM){r r':Option aF}(h:Ax S K R r r'):aG P S K (VA S K) (zid t r) R (zid t r'):=by
 have fin:∀{R1:Pr},aG P S K (VA S K) (do pure (.map (some (<-newObj (.map #[] 0))))) R1 (do pure (.map (some (<-newObj (.map #[] 0))))):=by
  intro R1;refine aG.bnd (zhY (.map ⟨rfl,λi e e' h=>by simp at h⟩)) ?_;intro R2 h2 n n' hn;exact aG.ret (.map (.some hn))
 unfold zid
 cases h with
 |none=>exact fin
 |some x=>
  refine aG.bnd (mX t) ?_;rintro R1 h1 d _ ⟨rfl,hd⟩
  cases d with
  |map k e=>
   refine aG.bnd (Xg (x.mono h1.le)) ?_;simp_all
  |_=>exact .inl (bR.bnd _)
theorem zAR (t:aM)(h:VR S K R v v'):aG P S K (VA S K) (zkr t v) R (zkr t v'):=by
 unfold zkr;refine aG.bnd (Xg h) ?_;rintro R1 h1 n _ rfl;refine aG.bnd (mX t) ?_;rintro R2 h2 d _ ⟨rfl,hd⟩
 cases d with
 |chan dir elem=>
  refine aG.bnd (Fh elem) ?_;rintro R3 h3 inf _ ⟨rfl,hi⟩;simp only;split
  .exact .inl (wA.bnd _)
  .refine aG.bnd (zhY (.chan bQ.empty)) ?_
   intro R4 h4 n n' hn;exact aG.ret (.chan (.some (.inl hn)))
 |_=>exact .inl bR
end
section
variable {P:dQ}{S:aP->Prop}{K:Pr}{α β γ δ:Type}{R:Pr}
theorem F0.eq_iff {R:Pr}(inj:∀a b c,R a b->R a c->b=c)(inj':∀a b c,R a c->R b c->a=b){a a' b b':Option Nat}(h:F0 R a a')(h':F0 R b b'):(a==b)=(a'==b'):=by
 cases h with
 |none=>cases h' with
  |none=>rfl
  |some y=>rfl
 |some x=>cases h' with
  |none=>rfl
  |some y=>grind
variable {r r':Nat}
theorem zoe (h:R r r'):aG P S K (λR a b=>(a=none/\b=none)\/∃x x' l,a=some (x,l)/\b=some (x',l)/\fT R x x') (numberAt r) R (numberAt r'):=by
 unfold numberAt;refine aG.bnd (zc6 h) ?_;rintro R1 h1 x _ rfl
 cases x with
 |some x=>exact aG.ret (.inl ⟨rfl,rfl⟩)
 |none=>
  refine aG.bnd (Vb (h1.le _ _ h)) ?_;intro R2 h2 o o' ho
  cases ho with
  |number ha=>exact aG.ret (.inr ⟨_,_,_,rfl,rfl,ha⟩)
  |_=>exact aG.ret (.inl ⟨rfl,rfl⟩)
variable {a a':bC}
theorem zu9 (h:fT R a a'):aG P S K (λR x y=>fT R x.1 y.1) (behindNumber a) R (behindNumber a'):=by
 have h0:=h
 cases h with
 |mk h=>
  unfold behindNumber;refine aG.bnd (zoe h) ?_;rintro R1 h1 x y (⟨rfl,rfl⟩|⟨p,p',l,rfl,rfl,hp⟩)
  .exact aG.ret (h0.mono h1.le)
  .exact aG.ret hp
def zdy:zci->Bool
 | .bool| .int _| .string| .chan .. =>true
 |_=>false
theorem fT.block_eq (hR:uA P K R){b b':bC}(h:fT R a a')(h':fT R b b'):(a.block==b.block)=(a'.block==b'.block):=by
 cases h with
 |mk x=>
  cases h' with
  |mk y=>
   rw[Q7];simp only[beq_iff_eq];exact⟨λe=>hR.inj _ _ _ (.inl (e▸x)) (.inl y),λe=>hR.inj' _ _ _ (.inl (e▸x)) (.inl y)⟩
def zIX (h:R r r'):aG P S K (λR' a b=>R'=R/\a=b) (shape r) R (shape r'):=.inr ⟨r',_,rfl,h,λx=>.inr ⟨x,rfl,rfl,rfl⟩⟩
def zEk (h:R r r'):aG P S K (λR' o o'=>R'=R/\o0 S K R o o') (getObj r) R (getObj r'):=.inr ⟨r',_,rfl,.inl h,λo o' ho=>.inr ⟨o',rfl,rfl,ho⟩⟩
def zkt:aG P S K (λR' a b=>R'=R/\a=P.g/\b=P.c) program R program:=.inr ⟨_,rfl,.inr ⟨P.c,rfl,rfl,rfl,rfl⟩⟩
theorem zIB (h:R r r'):aG P S K (λR' a b=>R'=R/\((a=none/\b=none)\/∃x x' l,a=some (x,l)/\b=some (x',l)/\fT R x x')) (numberAt r) R (numberAt r'):=by
 unfold numberAt;refine aG.bnd (zIX h) ?_;rintro R1 _ x _ ⟨rfl,rfl⟩
 cases x with
 |some x=>exact aG.ret ⟨rfl,.inl ⟨rfl,rfl⟩⟩
 |none=>
  refine aG.bnd (zEk h) ?_;rintro R2 _ o o' ⟨rfl,ho⟩
  cases ho with
  |number ha=>exact aG.ret ⟨rfl,.inr ⟨_,_,_,rfl,rfl,ha⟩⟩
  |_=>exact aG.ret ⟨rfl,.inl ⟨rfl,rfl⟩⟩
theorem zgj (h:fT R a a'):aG P S K (λR' x y=>R'=R/\fT R x.1 y.1) (behindNumber a) R (behindNumber a'):=by
 have h0:=h
 cases h with
 |mk h=>
  unfold behindNumber;refine aG.bnd (zIB h) ?_;rintro R1 _ x y ⟨rfl,⟨rfl,rfl⟩|⟨p,p',l,rfl,rfl,hp⟩⟩
  .exact aG.ret ⟨rfl,h0⟩
  .exact aG.ret ⟨rfl,hp⟩
theorem fT.low (hR:uA P K R)(h:fT R a a'):decide (a.block<P.globals.size)=decide (a'.block<P.globals.size):=by
 cases h with
 |mk x=>exact decide_eq_decide.2 (hR.low _ _ x)
def zni (P:dQ)(t:aM):Prop:=∀i x,P.info? t=some i->i.desc≠ .named "sync.copyChecker" x
theorem zzo {t:aM}(hc:zni P t)(hR:uA P K R){b b':bC}(ha:fT R a a')(hb:fT R b b'):
 aG P S K l7 (do
  let(a,b):=((<-behindNumber a).1,(<-behindNumber b).1)
  if a.block==b.block&&a.block<(<-program).globals.size then return (<-byteOf a)==(<-byteOf b)
  let .named "sync.copyChecker" _:=(<-typeInfo t).desc|unsupported .addressObserved
  if a==b then pure true else unsupported .addressObserved) R (do
  let(a,b):=((<-behindNumber a').1,(<-behindNumber b').1)
  if a.block==b.block&&a.block<(<-program).globals.size then return (<-byteOf a)==(<-byteOf b)
  let .named "sync.copyChecker" _:=(<-typeInfo t).desc|unsupported .addressObserved
  if a==b then pure true else unsupported .addressObserved):=by
 refine aG.bnd (zgj ha) ?_;rintro R1 _ x y ⟨rfl,hx⟩;refine aG.bnd (zgj hb) ?_;rintro R2 _ u v ⟨rfl,hu⟩;refine aG.bnd zkt ?_;rintro R3 _ p q ⟨rfl,rfl,rfl⟩;rw[<-fT.block_eq hR hx hu,P.globals_g,<-fT.low hR hx];split
 .refine aG.bnd (Ub hx) ?_
  rintro R4 h4 m _ rfl;refine aG.bnd (Ub (hu.mono h4.le)) ?_;rintro R5 h5 m' _ rfl;exact aG.ret rfl
 .refine aG.bnd (Fh t) ?_
  rintro R4 h4 i _ ⟨rfl,hi⟩;refine .inl ?_;split
  .next e=>exact absurd e (hc i _ hi)
  .exact jT
theorem zI0 (n:Nat)(t:aM)(d:zci)(hd:P.underlying t=some d)(ok:zdy d=true)(hc:∀k,d=.int k->zni P t)(hR:uA P K R){x x' y y':aF}(hx:VR S K R x x')(hy:VR S K R y y'):
 aG P S K l7 (Fg (n+1) t x y) R (Fg (n+1) t x' y'):=by
 unfold Fg;refine aG.bnd (A:=λR' a b=>R'=R/\a=b/\P.underlying t=some a) (by
  unfold underlying;refine aG.bnd zkt ?_;rintro R' _ a b ⟨rfl,ha,hb⟩;rw[ha,hb,P.underlying_g]
  cases h:P.c.underlying t with
  |some d=>exact aG.ret ⟨rfl,rfl,h⟩
  |none=>exact .inl bR) ?_
 rintro R1 _ d' _ ⟨rfl,rfl,Lq⟩;obtain rfl:d'=d:=by simp_all
 cases d' with
 |bool=>
  cases hx with
  |bool a=>cases hy with
   |bool b=>exact aG.ret rfl
   |_=>exact .inl bR
  |_=>first|exact .inl bR|(cases hy<;>exact .inl bR)
 |string=>
  cases hx with
  |string a=>cases hy with
   |string b=>exact aG.ret rfl
   |_=>exact .inl bR
  |_=>first|exact .inl bR|(cases hy<;>exact .inl bR)
 |chan dir el=>
  cases hx with
  |chan a=>cases hy with
   |chan b=>exact aG.ret (F0.eq_iff hR.inj hR.inj' a b)
   |_=>exact .inl bR
  |_=>first|exact .inl bR|(cases hy<;>exact .inl bR)
 |int ik=>
  cases hx with
  |int k a=>cases hy with
   |int k' b=>
    simp only;split
    .exact aG.ret rfl
    .exact .inl bR
   |pointer q=>
    cases q with
    |none=>exact .inl zk9
    |some q=>
     by_cases h0:a=0
     .subst h0;exact aG.ret rfl
     .refine .inl ?_
      split<;>first|exact jT|exact bR|(exfalso;simp_all;done)
   |_=>exact .inl zmi
  |pointer p=>cases p with
   |none=>cases hy<;>first|exact .inl jT|exact .inl bR
   |some p=>
    cases hy with
    |int k' b=>
     by_cases h0:b=0
     .subst h0;exact aG.ret rfl
     .refine .inl ?_
      split<;>first|exact jT|exact bR|(exfalso;simp_all;done)
    |pointer q=>
     cases q with
     |none=>exact .inl zk9
     |some q=>exact zzo (hc ik rfl) hR p q
    |_=>exact .inl zk9
  |_=>cases hy<;>first|exact .inl bR|exact .inl jT
 |_=>cases ok
end
section
variable {P:dQ}{S:aP->Prop}{K:Pr}{α β γ δ:Type}{R:Pr}
def Lx (S:aP->Prop)(K R:Pr)(es fE:List pF):Prop:=es.length=fE.length/\∀(i:Nat) (e e':pF),es[i]? =some e->fE[i]? =some e'->Dh S K R e e'
variable {es fE:Array pF}
theorem rT.toList (h:rT S K R es fE):Lx S K R es.toList fE.toList:=⟨by simpa using h.1,λi e e' h1 h2=>h.2 i e e' zag Zw⟩
variable {e e':pF}
theorem Lx.cons {es fE:List pF}(h:Lx S K R (e::es) (e'::fE)):Dh S K R e e'/\Lx S K R es fE:=
 ⟨h.2 0 e e' rfl rfl,by simpa using h.1,λi a b h1 h2=>h.2 (i+1) a b zag Zw⟩
def Lx.mono {R':Pr}(hR:R.le R'){es fE:List pF}(h:Lx S K R es fE):Lx S K R' es fE:=⟨h.1,λi e e' h1 h2=>(h.2 i e e' h1 h2).mono hR⟩
theorem yB.eq_iff (hR:uA P K R){a a' b b':Option bC}(h:yB R a a')(h':yB R b b'):(a==b)=(a'==b'):=by
 cases h with
 |none=>cases h' with
  |none=>rfl
  |some y=>rfl
 |some x=>cases h' with
  |none=>rfl
  |some y=>
   cases x with
   |mk x=>
    cases y with
    |mk y=>
     rw[Q7];simp only[beq_iff_eq,jQ,bC.mk.injEq];exact⟨λe=>⟨hR.inj _ _ _ (.inl (e.1▸x)) (.inl y),e.2⟩,λe=>⟨hR.inj' _ _ _ (.inl (e.1▸x)) (.inl y),e.2⟩⟩
def Flat:aF->Prop
 | .tuple _| .agg _| .iface _ _| .nilFunc=>False
 |_=>True
variable {x x' y:aF}
theorem zzl (hR:uA P K R)(n:Nat){y':aF}(fx:Flat x)(fy:Flat y)(hx:VR S K R x x')(hy:VR S K R y y'):zc5 n x y=zc5 n x' y':=by
 cases n<;>(
  cases hx with
  |pointer h1=>cases hy with
   |pointer h2=>exact yB.eq_iff hR h1 h2
   |junk h=>exact fy.elim
   |_=>rfl
  |chan h1=>cases hy with
   |chan h2=>exact F0.eq_iff hR.inj hR.inj' h1 h2
   |junk h=>exact fy.elim
   |_=>rfl
  |junk h=>exact fx.elim
  |iface h1=>exact fx.elim
  |agg h1=>exact fx.elim
  |tuple h1=>exact fx.elim
  |_=>cases hy<;>first|rfl|exact fy.elim)
variable {t:aM}{d:zci}
theorem zlQ (hd:P.underlying t=some d)(ok:zdy d=true)(h:¬(Flat x/\Flat y)):fF P (Bi t x y):=by
 have e:Bi t x y=Fg (9999+1) t x y:=rfl;rw[e];unfold Fg;have hu:∀w,(underlying t).run P.g w=.ok d w:=λw=>by
  have:P.g.underlying t=some d:=hd;simp[underlying,program,bN,bind,dA.bind,pure,this]
 have key:∀{f:zci->dA Bool},fF P (f d)->fF P (underlying t>>=f):=λ{f} hf w hw=>by
  obtain⟨h1,w1,h2,h3⟩:=hf w hw;refine⟨h1,w1,?_,h3⟩;have:=vD P.g (underlying t) f w;rw[hu] at this;exact this.trans h2
 refine key ?_;cases d<;>first|(cases ok;done)|skip
 all_goals(cases x<;>cases y<;>first
  |exact(h ⟨True.intro,True.intro⟩).elim
  |exact bR
  |exact jT
  |(split<;>first|exact bR|exact jT|(simp_all;done)))
theorem zC7 {b:Bool}(h:xE d x y=some b):Flat x/\Flat y:=by
 cases x<;>cases d<;>first|(simp[xE] at h;done)|(cases y<;>first|exact⟨trivial,trivial⟩|(simp[xE] at h;done))
variable {k k':aF}
theorem zF7 (d:zci){e e':aF}(f1:Flat k)(f2:Flat e)(hk:VR S K R k k')(he:VR S K R e e'):xE d k e=xE d k' e':=by
 cases hk with
 |junk _=>exact f1.elim
 |int i n=>cases he with
  |int i n=>rfl
  |junk _=>exact f2.elim
  |_=>cases d<;>rfl
 |string s=>cases he with
  |string s=>rfl
  |junk _=>exact f2.elim
  |_=>cases d<;>rfl
 |bool s=>cases he with
  |bool s=>rfl
  |junk _=>exact f2.elim
  |_=>cases d<;>rfl
 |_=>cases d<;>rfl
inductive OfR (S:aP->Prop)(K R:Pr)(F:Nat->Prop):Option (Nat×aF)->Option (Nat×aF)->Prop
 |none:OfR S K R F none none
 |some {i:Nat} {v v':aF}:VR S K R v v'->F i->OfR S K R F (some (i,v)) (some (i,v'))
structure Mr (P:dQ)(t:aM):Prop where
 ex:∃d,P.underlying t=some d/\zdy d=true
 nc:∀k,P.underlying t=some (.int k)->zni P t
theorem zm1 (ht:Mr P t)(hR:uA P K R){y':aF}(hx:VR S K R x x')(hy:VR S K R y y'):aG P S K l7 (Bi t x y) R (Bi t x' y'):=by
 obtain⟨d,hd,ok⟩:=ht.ex;have e:∀a b,Bi t a b=Fg (9999+1) t a b:=λa b=>rfl;rw[e,e];exact zI0 9999 t d hd ok (λk e=>ht.nc k (e▸hd)) hR hx hy
theorem zH5 (hd:P.underlying t=some d)(h:xE d x y=some false)(w:aE):(Bi t x y).run P.g w=.ok false w:=by
 have e:Bi t x y=Fg (9999+1) t x y:=rfl;have hg:P.g.underlying t=some d:=hd;have hu:(underlying t).run P.g w=.ok d w:=by simp[underlying,program,bN,bind,dA.bind,pure,hg]
 rw[e];unfold Fg;refine(vD P.g (underlying t) _ w).trans ?_;rw[hu]
 cases x with
 |bool a=>
  cases d with
  |bool=>
   cases y with
   |bool b=>
    have h':(a==b)=false:=by simpa[xE] using h
    show bN P.g (pure (a==b)) w=_;rw[h'];rfl
   |_=>simp[xE] at h
  |_=>simp[xE] at h
 |string a=>
  cases d with
  |string=>
   cases y with
   |string b=>
    have h':(a==b)=false:=by simpa[xE] using h
    show bN P.g (pure (a==b)) w=_;rw[h'];rfl
   |_=>simp[xE] at h
  |_=>simp[xE] at h
 |int k a=>
  cases d with
  |int dk=>
   cases y with
   |int k' b=>
    simp only[xE] at h;split at h
    .next hk=>
     have h':(a==b)=false:=by simpa using h
     show bN P.g (if k=k' then pure (a==b) else stuck "==: kinds differ") w=_;rw[if_pos hk,h'];rfl
    .cases h
   |_=>simp[xE] at h
  |_=>simp[xE] at h
 |_=>cases d<;>simp[xE] at h
theorem zyW (hd:P.underlying t=some d)(ok:zdy d=true)(hk:VR S K R k k'){F:Nat->Prop}:∀(es fE:List pF) (i:Nat),Lx S K R es fE->(∀j e,es[j]? =some e->Flat k->Flat e.key->F (i+j))->
 (Hl d k es i=none/\fF P (Mm t k es i))\/(Hl d k es i=none/\Hl d k' fE i=none)\/∃r r',Hl d k es i=some r/\Hl d k' fE i=some r'/\OfR S K R F r r'
 |[],[],i,h,_=>.inr (.inr ⟨_,_,rfl,rfl,.none⟩)
 |[],_::_,i,h,_=>by have:=h.1;simp at this
 |_::_,[],i,h,_=>by have:=h.1;simp at this
 |e::es,e'::fE,i,h,hF=>by
  obtain⟨h1,h2⟩:=h.cons
  cases h1 with
  |mk rL hv=>
   rename_i ek ek' ev ev' born;by_cases hf:Flat k/\Flat ek
   .unfold Hl
    simp only[<-zF7 d hf.1 hf.2 hk rL]
    cases hs:xE d k ek with
    |none=>simp_all
    |some b=>cases b with
     |true=>exact .inr (.inr ⟨_,_,rfl,rfl,.some hv zvY⟩)
     |false=>
      rcases zyW hd ok hk es fE (i+1) h2 (λj e he a b=>by have:=hF (j+1) e (by simpa using he) a b;rwa [show i+1+j=i+(j+1) by omega]) with⟨hq,hn⟩|hr
      .refine .inl ⟨hq,λw hw=>?_⟩
       obtain⟨hh,w1,q1,q2⟩:=hn w hw;refine⟨hh,w1,?_,q2⟩;unfold Mm;refine(vD P.g _ _ w).trans ?_;rw[zH5 hd hs w];exact q1
      .exact .inr hr
   .refine .inl ⟨?_,?_⟩
    .unfold Hl
     cases hs:xE d k ek with
     |none=>rfl
     |some b=>exact absurd (zC7 hs) hf
    .unfold Mm
     exact(zlQ hd ok hf).bnd _
theorem zqm (ht:Mr P t):∀(es fE:List pF) (i:Nat) {R:Pr} {k k':aF} {F:Nat->Prop},uA P K R->VR S K R k k'->Lx S K R es fE->(∀j e,es[j]? =some e->Flat k->Flat e.key->F (i+j))->
 aG P S K (λR' a b=>OfR S K R' F a b) (Mm t k es i) R (Mm t k' fE i)
 |[],[],i,R,k,k',F,hR,hk,h,hF=>aG.ret .none
 |[],_::_,i,R,k,k',F,hR,hk,h,hF=>by have:=h.1;simp at this
 |_::_,[],i,R,k,k',F,hR,hk,h,hF=>by have:=h.1;simp at this
 |e::es,e'::fE,i,R,k,k',F,hR,hk,h,hF=>by
  obtain⟨h1,h2⟩:=h.cons
  cases h1 with
  |mk rL hv=>
   rename_i ek ek' ev ev' born;by_cases hf:Flat k/\Flat ek
   rotate_left
   .obtain⟨d,hd,ok⟩:=ht.ex
    refine .inl ?_;unfold Mm;exact(zlQ hd ok hf).bnd _
   unfold Mm;refine aG.bnd (zm1 ht hR hk rL) ?_;rintro R1 hx b _ rfl
   cases b with
   |true=>exact aG.ret (.some (hv.mono hx.le) zvY)
   |false=>exact zqm ht es fE (i+1) (hx.ok hR) (hk.mono hx.le) (h2.mono hx.le) (λj e he a b=>by have:=hF (j+1) e (by simpa using he) a b;rwa [show i+1+j=i+(j+1) by omega])
variable {i:Nat}
theorem rT.get (h:rT S K R es fE)(hi:es[i]? =some e):∃e',fE[i]? =some e'/\Dh S K R e e':=by
 have:i<fE.size:=by rw[<-h.1];exact(eM.1 hi).1
 exact⟨_,qI this,h.2 i e _ hi (qI this)⟩
theorem rT.none (h:rT S K R es fE)(hi:es[i]? =none):fE[i]? =none:=by
 rw[zqt] at hi⊢;rw[<-h.1];exact hi
theorem rT.modify (h:rT S K R es fE)(i:Nat){f f':pF->pF}(hf:∀e e',Dh S K R e e'->Dh S K R (f e) (f' e')):rT S K R (es.modify i f) (fE.modify i f'):=by
 refine⟨by simpa using h.1,λk e e' h1 h2=>?_⟩;rw[zuD] at h1 h2;split at h1
 .next e1=>
  rw[if_pos e1] at h2
  cases q:es[k]? with
  |none=>rw[q] at h1;cases h1
  |some u=>
   obtain⟨u',q',r⟩:=h.get q
   grind
 .next e1=>
  rw[if_neg e1] at h2;exact h.2 k e e' h1 h2
theorem rT.push (h:rT S K R es fE)(he:Dh S K R e e'):rT S K R (es.push e) (fE.push e'):=by
 refine⟨by simpa using h.1,λk a a' h1 h2=>?_⟩;rw[zlf] at h1 h2;rw[<-h.1] at h2;split at h1
 .simp_all
 .next e1=>
  rw[if_neg e1] at h2;exact h.2 k a a' h1 h2
theorem rT.erase (h:rT S K R es fE)(i:Nat):rT S K R (es.eraseIdxIfInBounds i) (fE.eraseIdxIfInBounds i):=by
 unfold Array.eraseIdxIfInBounds;split
 .next hi=>
  have lS:i<fE.size:=h.1▸hi;rw[dif_pos lS];refine⟨by simp[h.1],λk a a' h1 h2=>?_⟩;rw[Array.getElem?_eraseIdx] at h1 h2;split at h1
  .next e1=>rw[if_pos e1] at h2;exact h.2 _ _ _ h1 h2
  .next e1=>rw[if_neg e1] at h2;exact h.2 _ _ _ h1 h2
 .next hi=>
  have lS:¬i<fE.size:=h.1▸hi
  grind
theorem zkH (ht:Mr P t)(hR:uA P K R)(hk:VR S K R k k'){es fE:List pF}(he:Lx S K R es fE):
 aG P S K (λR' a b=>OfR S K R' (λi=>Flat k/\∀e,es[i]? =some e->Flat e.key) a b) (My t k es) R (My t k' fE):=by
 unfold My;refine aG.bnd (mX t) ?_;rintro R1 h1 d _ ⟨rfl,hd⟩;obtain⟨d',Lq,ok⟩:=ht.ex;obtain rfl:d'=d:=by simp_all
 have hF:∀j e,es[j]? =some e->Flat k->Flat e.key->Flat k/\∀e,es[0+j]? =some e->Flat e.key:=λj e he a b=>⟨a,λe2 zLi=>by simp_all⟩;rcases zyW (F:=λi=>Flat k/\∀e,es[i]? =some e->Flat e.key) hd ok (hk.mono h1.le) es fE 0 (he.mono h1.le) hF with⟨e1,hn⟩|⟨e1,e2⟩|⟨r,r',e1,e2,h⟩
 .rw[e1]
  exact .inl hn
 .rw[e1,e2]
  exact zqm ht es fE 0 (h1.ok hR) (hk.mono h1.le) (he.mono h1.le) hF
 .rw[e1,e2]
  exact aG.ret h
theorem zCj (n:Nat)(ht:Mr P t)(b:Bool)(k k':aF):aG P S K l7 (Ij b (n+1) t k) R (Ij b (n+1) t k'):=by
 obtain⟨d,hd,ok⟩:=ht.ex;unfold Ij;refine aG.bnd (mX t) ?_;rintro R1 h1 d' _ ⟨rfl,Lq⟩;obtain rfl:d'=d:=by simp_all
 cases d' with
 |interface _=>cases ok
 |array _ _=>cases ok
 |struct _=>cases ok
 |_=>exact aG.ret rfl
def zgx (ht:Mr P t)(b:Bool)(k k':aF):aG P S K l7 (Ij b 10000 t k) R (Ij b 10000 t k'):=zCj 9999 ht b k k'
theorem zEj (hR:uA P K R){a a' b b':aF}(fa:Flat a)(fb:Flat b)(ha:VR S K R a a')(hb:VR S K R b b'):aG P S K (VA S K) (Qk a b) R (Qk a' b'):=by
 unfold Qk;rw[zzl hR 10000 fa fb ha hb];split
 .exact aG.ret hb
 .refine aG.bnd (zgh _) ?_
  rintro R1 h1 n _ rfl;refine aG.ret ?_;split
  .exact hb.mono h1.le
  .exact ha.mono h1.le
theorem rT.keyD (h:rT S K R es fE)(i:Nat)(hk:VR S K R k k'):VR S K R (((es[i]?).map (·.key)).getD k) (((fE[i]?).map (·.key)).getD k'):=by
 cases q:es[i]? with
 |none=>rw[h.none q];exact hk
 |some e=>
  obtain⟨e',q',r⟩:=h.get q;rw[q']
  cases r with
  |mk a b=>exact a
theorem zA4 (h:Flat k/\∀e,es.toList[i]? =some e->Flat e.key):Flat (((es[i]?).map (·.key)).getD k):=by grind
theorem rT.isEmpty (h:rT S K R es fE):es.isEmpty=fE.isEmpty:=by simp[Array.isEmpty,h.1]
theorem zIa (hz:Ks P S)(ht:∀k e,P.underlying t=some (.map k e)->Mr P k)(hR:uA P K R)(hx:VR S K R x x')(hk:VR S K R k k')(c:Bool):
 aG P S K (VA S K) (Ar t x k c) R (Ar t x' k' c):=by
 unfold Ar;refine aG.bnd (mX t) ?_;rintro R1 h1 d _ ⟨rfl,hd⟩
 cases d with
 |map kt el=>
  have hK:=ht kt el hd
  have tail:∀R2,y7 P K R1 R2->∀es fE,rT S K R2 es fE->aG P S K (VA S K)
   (do
    Ij es.isEmpty 10000 kt k
    let r<-My kt k es.toList
    match r with
    |some (_,v)=>do let x<-pure (v,true);pure (if c=true then Wj #[x.fst,.bool x.snd] else x.fst)
    |none=>do let z<-zeroValue el;let x<-pure (z,false);pure (if c=true then Wj #[x.fst,.bool x.snd] else x.fst)) R2
   (do
    Ij fE.isEmpty 10000 kt k'
    let r<-My kt k' fE.toList
    match r with
    |some (_,v)=>do let x<-pure (v,true);pure (if c=true then Wj #[x.fst,.bool x.snd] else x.fst)
    |none=>do let z<-zeroValue el;let x<-pure (z,false);pure (if c=true then Wj #[x.fst,.bool x.snd] else x.fst)):=by
   intro R2 h2 es fE he;rw[he.isEmpty];refine aG.bnd (zgx hK _ _ _) ?_;rintro R3 h3 _ _ rfl;have Xc:=h3.ok (h2.ok (h1.ok hR));have J0:=((hk.mono h1.le).mono h2.le).mono h3.le;have fin:∀{R5:Pr} {v v':aF} {b:Bool},VR S K R5 v v'->aG P S K (VA S K) (do let x<-pure (v,b);pure (if c=true then Wj #[x.fst,.bool x.snd] else x.fst)) R5 (do let x<-pure (v',b);pure (if c=true then Wj #[x.fst,.bool x.snd] else x.fst)):=by
    intro R5 v v' b hv;refine aG.bnd (aG.ret (A:=λR (a b:aF×Bool)=>VR S K R a.1 b.1/\a.2=b.2) ⟨hv,rfl⟩) ?_;rintro R5 h5 ⟨v,b⟩ ⟨v',b'⟩ ⟨hv,e⟩;cases e
    cases c with
    |true=>exact aG.ret (VR.tuple' ((bQ.empty.push hv).push (.bool b)))
    |false=>exact aG.ret hv
   refine aG.bnd (zkH hK Xc J0 (he.mono h3.le).toList) ?_;intro R4 h4 r r' hr
   cases hr with
   |some hv=>exact fin hv
   |none=>
    refine aG.bnd (Qq hz el) ?_;simp_all
  cases hx with
  |map h=>
   cases h with
   |none=>exact aG.bnd (aG.ret (A:=λR a b=>rT S K R a b) ⟨rfl,λi e e' h=>by simp at h⟩) tail
   |some h=>
    refine aG.bnd (Vb (h1.le _ _ h)) ?_;intro R2 h2 o o' ho
    cases ho with
    |map he=>grind
    |_=>exact .inl (bR.bnd _)
  |_=>exact .inl (bR.bnd _)
 |_=>exact .inl bR
theorem zFt (ht:∀k e,P.underlying t=some (.map k e)->Mr P k)(hR:uA P K R){v v':aF}(hx:VR S K R x x')(hk:VR S K R k k')(hv:VR S K R v v'):
 aG P S K l7 (He t x k v) R (He t x' k' v'):=by
 unfold He;refine aG.bnd (mX t) ?_;rintro R1 h1 d _ ⟨rfl,hd⟩
 cases d with
 |map kt el=>
  have hK:=ht kt el hd
  cases hx with
  |map h=>
   cases h with
   |none=>exact .inl wA
   |some h=>
    refine aG.bnd (Vb (h1.le _ _ h)) ?_;intro R2 h2 o o' ho
    cases ho with
    |map he=>
     rename_i cl;refine aG.bnd (zgx hK _ _ _) ?_;rintro R3 h3 _ _ rfl;have Xc:=h3.ok (h2.ok (h1.ok hR));have J0:=((hk.mono h1.le).mono h2.le).mono h3.le;have G8:=h3.le _ _ (h2.le _ _ (h1.le _ _ h));have Ih:=((hv.mono h1.le).mono h2.le).mono h3.le;refine aG.bnd (zkH hK Xc J0 (he.mono h3.le).toList) ?_;intro R4 h4 r r' hr
     cases hr with
     |some hq zfq=>
      refine aG.bnd (zEj (h4.ok Xc) (zA4 zfq) zfq.1 (((he.mono h3.le).mono h4.le).keyD _ (J0.mono h4.le)) (J0.mono h4.le)) ?_;intro R5 h5 kk Jw gG;refine zbJ (h5.le _ _ (h4.le _ _ G8)) (.map (rT.modify (((he.mono h3.le).mono h4.le).mono h5.le) _ ?_));intro e e' zBj
      cases zBj with
      |mk a b=>exact .mk gG ((Ih.mono h4.le).mono h5.le)
     |none=>exact zbJ (h4.le _ _ G8) (.map (rT.push ((he.mono h3.le).mono h4.le) (.mk (J0.mono h4.le) (Ih.mono h4.le))))
    |_=>exact .inl bR
  |_=>exact .inl bR
 |_=>exact .inl bR
end
section
variable {P:dQ}{S:aP->Prop}{K:Pr}{α β γ δ:Type}{R:Pr}
variable {xs cC:Array aF}
theorem bQ.opt (h:bQ S K R xs cC)(i:Nat):Ax S K R xs[i]? cC[i]? :=by
 cases q:xs[i]? with
 |none=>rw[h.none q];exact .none
 |some v=>obtain⟨v',q',hv⟩:=h.get q;rw[q'];exact .some hv
theorem sim_len (ts:Array aM)(t:aM)(h:bQ S K R xs cC):aG P S K (VA S K) (zim ts t xs) R (zim ts t cC):=by
 unfold zim
 cases ts[0]? with
 |none=>exact .inl bR
 |some t=>
  have ho:=h.opt 0;generalize xs[0]? =o at ho;generalize cC[0]? =o' at ho
  cases ho with
  |none=>exact .inl bR
  |some hv=>
   simp only;refine aG.bnd (mX t) ?_;rintro R1 h1 d _ ⟨rfl,hd⟩
   cases d with
   |string=>cases hv with
    |string s=>exact aG.ret (.int _ _)
    |_=>exact .inl bR
   |array n e=>exact aG.ret (.int _ _)
   |pointer arr=>
    refine aG.bnd (mX arr) ?_;rintro R2 h2 d2 _ ⟨rfl,Bo⟩
    cases d2 with
    |array n e=>exact aG.ret (.int _ _)
    |_=>exact .inl bR
   |slice e=>cases hv with
    |slice _=>exact aG.ret (.int _ _)
    |_=>exact .inl bR
   |map k e=>cases hv with
    |map hm=>cases hm with
     |none=>exact aG.ret (.int _ _)
     |some hm=>
      refine aG.bnd (Vb (h1.le _ _ hm)) ?_;intro R2 h2 o o' ho
      cases ho with
      |map he=>simp only;rw[he.1];exact aG.ret (.int _ _)
      |_=>exact .inl bR
    |_=>exact .inl bR
   |chan k e=>cases hv with
    |chan hm=>cases hm with
     |none=>exact aG.ret (.int _ _)
     |some hm=>
      refine aG.bnd (ztC (hm.imp (h1.le _ _) id)) ?_;intro R2 h2 o o' ho
      cases ho with
      |chan he=>simp only;rw[he.1];exact aG.ret (.int _ _)
      |_=>exact .inl bR
    |_=>exact .inl bR
   |_=>exact .inl bR
theorem sim_cap (ts:Array aM)(t:aM)(h:bQ S K R xs cC):aG P S K (VA S K) (zjY ts t xs) R (zjY ts t cC):=by
 unfold zjY
 cases ts[0]? with
 |none=>exact .inl bR
 |some t=>
  have ho:=h.opt 0;generalize xs[0]? =o at ho;generalize cC[0]? =o' at ho
  cases ho with
  |none=>exact .inl bR
  |some hv=>
   simp only;refine aG.bnd (mX t) ?_;rintro R1 h1 d _ ⟨rfl,hd⟩
   cases d with
   |array n e=>exact aG.ret (.int _ _)
   |pointer arr=>
    refine aG.bnd (mX arr) ?_;rintro R2 h2 d2 _ ⟨rfl,Bo⟩
    cases d2 with
    |array n e=>exact aG.ret (.int _ _)
    |_=>exact .inl bR
   |slice e=>cases hv with
    |slice _=>exact aG.ret (.int _ _)
    |_=>exact .inl bR
   |chan k e=>cases hv with
    |chan hm=>cases hm with
     |none=>exact aG.ret (.int _ _)
     |some hm=>
      refine aG.bnd (ztC (hm.imp (h1.le _ _) id)) ?_;intro R2 h2 o o' ho
      cases ho with
      |chan he=>exact aG.ret (.int _ _)
      |_=>exact .inl bR
    |_=>exact .inl bR
   |_=>exact .inl bR
variable {ts:Array aM}
theorem zDr (t:aM)(ht:∀mt k e,ts[0]? =some mt->P.underlying mt=some (.map k e)->Mr P k)(hR:uA P K R)(h:bQ S K R xs cC):
 aG P S K (VA S K) (Lh ts t xs) R (Lh ts t cC):=by
 unfold Lh
 cases e0:ts[0]? with
 |none=>exact .inl bR
 |some mt=>
  have ho:=h.opt 0;have zT:=h.opt 1;generalize xs[0]? =o at ho;generalize cC[0]? =o' at ho;generalize xs[1]? =p at zT;generalize cC[1]? =p' at zT
  cases ho with
  |none=>exact .inl bR
  |some hm=>
   cases zT with
   |none=>exact .inl bR
   |some hk=>
    simp only;refine aG.bnd (mX mt) ?_;rintro R1 h1 d _ ⟨rfl,hd⟩
    cases d with
    |map kt el=>
     have hK:=ht mt kt el e0 hd;have fin:∀{R2:Pr},aG P S K (VA S K) (pure (.tuple #[])) R2 (pure (.tuple #[])):=aG.ret (VR.tuple' bQ.empty)
     cases hm with
     |map hm=>
      cases hm with
      |none=>exact aG.bnd (zgx hK _ _ _) (λ_ _ _ _ _=>fin)
      |some hm=>
       refine aG.bnd (Vb (h1.le _ _ hm)) ?_;intro R2 h2 o o' ho
       cases ho with
       |map he=>
        simp only;rw[he.isEmpty];refine aG.bnd (zgx hK _ _ _) ?_;rintro R3 h3 _ _ rfl;have Xc:=h3.ok (h2.ok (h1.ok hR));have J0:=((hk.mono h1.le).mono h2.le).mono h3.le;have G8:=h3.le _ _ (h2.le _ _ (h1.le _ _ hm));refine aG.bnd (zkH hK Xc J0 (he.mono h3.le).toList) ?_;intro R4 h4 r r' hr
        cases hr with
        |some hq=>exact aG.bnd (zbJ (h4.le _ _ G8) (.map (((he.mono h3.le).mono h4.le).erase _))) (λ_ _ _ _ _=>fin)
        |none=>exact aG.bnd (zbJ (h4.le _ _ G8) (.map ((he.mono h3.le).mono h4.le))) (λ_ _ _ _ _=>fin)
       |_=>exact .inl (bR.bnd _)
     |_=>exact .inl (bR.bnd _)
    |_=>exact .inl bR
variable {x':aF}
theorem zoU {x:aF}(h:VR S K R x x'):aG P S K l7 (zqe x) R (zqe x'):=by
 cases h with
 |slice _=>exact aG.ret rfl
 |string s=>exact aG.ret rfl
 |_=>exact .inl bR
theorem zaQ (size n:Nat){x:aF}(h:VR S K R x x'):aG P S K (λR a b=>bQ S K R a b) (Un size n x) R (Un size n x'):=by
 cases h with
 |slice ha=>cases ha with
  |none=>exact aG.ret bQ.empty
  |some ha=>exact zmN ha _
 |string s=>
  refine aG.ret ⟨rfl,λi v v' h1 h2=>?_⟩;rw[h1] at h2;injection h2 with e;subst e;rw[Dw] at h1
  cases q:(s.extract 0 n).data[i]? with
  |none=>rw[q] at h1;cases h1
  |some b=>rw[q] at h1;cases h1;exact .int _ _
 |_=>exact .inl bR
theorem zfb {z z':Array aF}(h:bQ S K R z z')(n:Nat):bQ S K R (qK z n) (qK z' n):=by
 refine⟨by simp[qK,h.1],λi v v' h1 h2=>?_⟩;unfold qK at h1 h2;rw[Dw] at h1 h2;rw[<-h.1] at h2
 cases q:(N1 (n*z.size))[i]? with
 |none=>rw[q] at h1;cases h1
 |some j=>
  rw[q] at h1 h2;cases h1;cases h2
  cases q1:z[j%z.size]? with
  |none=>
   have q2:=h.none q1;show VR S K R (z[j%z.size]!) (z'[j%z.size]!);rw[getElem!_def,getElem!_def,q1,q2];exact .bool false
  |some u=>
   obtain⟨u',q2,hu⟩:=h.get q1
   grind
theorem zBu {A:Pr->γ->δ->Prop}{F:Bool->dA γ}{F':Bool->dA δ}(o:Option aM)(hi:∀xt d,o=some xt->P.underlying xt=some d->∀k,d≠ .int k)(hF:∀R3,y7 P K R R3->aG P S K A (F false) R3 (F' false)):
 aG P S K A (match(generalizing:=false) o with|some xt=>do let l<-underlying xt;let zeros<-pure (match l with| .int k=>true|x=>false);F zeros|none=>do let zeros<-pure false;F zeros) R
  (match(generalizing:=false) o with|some xt=>do let l<-underlying xt;let zeros<-pure (match l with| .int k=>true|x=>false);F' zeros|none=>do let zeros<-pure false;F' zeros):=by
 cases o with
 |none=>
  refine aG.bnd (aG.ret (A:=λ_ a b=>a=false/\b=false) ⟨rfl,rfl⟩) ?_;simp_all
 |some xt=>
  refine aG.bnd (mX xt) ?_;simp_all
theorem zAy (hz:Ks P S)(t:aM)(hi:∀xt d,ts[1]? =some xt->P.underlying xt=some d->∀k,d≠ .int k)(h:bQ S K R xs cC):
 aG P S K (VA S K) (xR ts t xs) R (xR ts t cC):=by
 unfold xR
 cases e0:ts[0]? with
 |none=>exact .inl bR
 |some st=>
  have ho:=h.opt 0;have zT:=h.opt 1;generalize xs[0]? =o at ho;generalize cC[0]? =o' at ho;generalize xs[1]? =p at zT;generalize cC[1]? =p' at zT
  cases ho with
  |none=>exact .inl bR
  |some hs=>
   cases zT with
   |none=>exact .inl bR
   |some hx=>
    rename_i s s' x x';simp only;refine aG.bnd (mX st) ?_;rintro R1 h1 d _ ⟨rfl,hd⟩
    cases d with
    |slice elem=>
     cases hs with
     |slice hb=>
      rename_i b b' n c;refine aG.bnd (Br elem) ?_;rintro R2 h2 size _ rfl;have sD:=(hb.mono h1.le).mono h2.le;have Ak:=(hx.mono h1.le).mono h2.le;refine zBu ts[1]? hi ?_;intro R3 h3;simp only[Bool.not_false,if_true,iA,if_false,false_or];refine aG.bnd (zoU (Ak.mono h3.le)) ?_;rintro R4 h4 m _ rfl;have Pm:=(sD.mono h3.le).mono h4.le;have zvo:=(Ak.mono h3.le).mono h4.le;split
      .refine aG.bnd (zaQ size m zvo) ?_
       intro R5 h5 w w' hw;have zdS:=Pm.mono h5.le
       cases zdS with
       |none=>exact aG.ret (.slice .none)
       |some ha=>
        refine aG.bnd (Xx _ _ 0 (ha.add _) hw.toList) ?_;rintro R6 h6 _ _ rfl;exact aG.ret (.slice (.some (ha.mono h6.le)))
      .refine aG.bnd (Fh elem) ?_
       rintro R5 h5 inf _ ⟨rfl,zLG⟩;split
       .exact .inl (wA.bnd _)
       .refine aG.bnd (Fh elem) ?_
        rintro R6 h6 zIK _ ⟨rfl,zx1⟩;have uE:=(Pm.mono h5.le).mono h6.le;have zyL:=(zvo.mono h5.le).mono h6.le;split
        .refine .inl (fF.bnd (fF.then (zC1 _ _ _ _ _) λsh=>?_) _)
         split
         .exact fF.then (zBq _) λ_=>jT
         .exact jT
        .refine aG.bnd (zgh _) ?_
         rintro R7 h7 nc _ rfl;refine aG.bnd (Fh elem) ?_;rintro R8 h8 zGK _ ⟨rfl,zGH⟩;refine aG.bnd (znY _) ?_;rintro R9 h9 _ _ rfl;have yX:=((uE.mono h7.le).mono h8.le).mono h9.le;have zzA:=((zyL.mono h7.le).mono h8.le).mono h9.le;refine aG.bnd (zaQ size n (.slice yX)) ?_;intro zIm Yf o o' ho;refine aG.bnd (zaQ size m (zzA.mono Yf.le)) ?_;intro zHA zcV w w' hw;refine aG.bnd (Qq hz elem) ?_;intro zHD zcK z z' pY;refine aG.bnd (zcf elem (((ho.mono (zcV.trans zcK).le).append (hw.mono zcK.le)).append (zfb pY.cells _))) ?_;intro zC4 zBZ r r' hr;exact aG.ret (.slice (.some hr))
     |_=>exact .inl bR
    |_=>exact .inl bR
theorem zDw (ts:Array aM)(t:aM)(h:bQ S K R xs cC):aG P S K (VA S K) (Eg ts t xs) R (Eg ts t cC):=by
 unfold Eg
 cases e0:ts[0]? with
 |none=>exact .inl bR
 |some st=>
  have ho:=h.opt 0;have zT:=h.opt 1;generalize xs[0]? =o at ho;generalize cC[0]? =o' at ho;generalize xs[1]? =p at zT;generalize cC[1]? =p' at zT
  cases ho with
  |none=>exact .inl bR
  |some hs=>
   cases zT with
   |none=>exact .inl bR
   |some hx=>
    simp only;refine aG.bnd (mX st) ?_;rintro R1 h1 d _ ⟨rfl,hd⟩
    cases d with
    |slice elem=>
     cases hs with
     |slice hb=>
      refine aG.bnd (zoU (hx.mono h1.le)) ?_;rintro R2 h2 m _ rfl;refine aG.bnd (Br elem) ?_;rintro R3 h3 size _ rfl;refine aG.bnd (zaQ size _ (((hx.mono h1.le).mono h2.le).mono h3.le)) ?_;intro R4 h4 w w' hw;have Pm:=(((hb.mono h1.le).mono h2.le).mono h3.le).mono h4.le
      cases Pm with
      |none=>exact aG.ret (.int _ _)
      |some ha=>
       refine aG.bnd (Xx _ _ 0 ha hw.toList) ?_;rintro R6 h6 _ _ rfl;exact aG.ret (.int _ _)
     |_=>exact .inl bR
    |_=>exact .inl bR
theorem aG.ite {α β:Type}{A:Pr->α->β->Prop}{c:Prop}[Decidable c]{s t:dA α}{s' t':dA β}(h1:c->aG P S K A s R s')(h2:¬c->aG P S K A t R t'):aG P S K A (if c then s else t) R (if c then s' else t'):=by grind
variable {xt:aM}{k:Dr}
theorem zDJ {A:Pr->γ->δ->Prop}{F:Bool->dA γ}{F':Bool->dA δ}(hi:P.underlying xt=some (.int k))(hF:∀R3,y7 P K R R3->aG P S K A (F true) R3 (F' true)):
 aG P S K A (match(generalizing:=false) (some xt:Option aM) with|some xt=>do let l<-underlying xt;let zeros<-pure (match l with| .int k=>true|x=>false);F zeros|none=>do let zeros<-pure false;F zeros) R
  (match(generalizing:=false) (some xt:Option aM) with|some xt=>do let l<-underlying xt;let zeros<-pure (match l with| .int k=>true|x=>false);F' zeros|none=>do let zeros<-pure false;F' zeros):=by
 refine aG.bnd (mX xt) ?_;simp_all
theorem zDI (hz:Ks P S)(t:aM)(e1:ts[1]? =some xt)(hi:P.underlying xt=some (.int k))(h:bQ S K R xs cC):
 aG P S K (VA S K) (xR ts t xs) R (xR ts t cC):=by
 unfold xR
 cases e0:ts[0]? with
 |none=>exact .inl bR
 |some st=>
  have ho:=h.opt 0;have zT:=h.opt 1;generalize xs[0]? =o at ho;generalize cC[0]? =o' at ho;generalize xs[1]? =p at zT;generalize cC[1]? =p' at zT
  cases ho with
  |none=>exact .inl bR
  |some hs=>
   cases zT with
   |none=>exact .inl bR
   |some hx=>
    rename_i s s' x x';simp only;refine aG.bnd (mX st) ?_;rintro R1 h1 d _ ⟨rfl,hd⟩
    cases d with
    |slice elem=>
     cases hs with
     |slice hb=>
      rename_i b b' n c;refine aG.bnd (Br elem) ?_;rintro R2 h2 size _ rfl;have sD:=(hb.mono h1.le).mono h2.le;have Ak:=(hx.mono h1.le).mono h2.le;rw[e1];refine zDJ hi ?_;intro R3 h3;rw[if_pos rfl,if_pos rfl];refine aG.bnd (Xg (Ak.mono h3.le)) ?_;rintro R4 h4 l0 _ rfl;refine aG.ite (λ_=>.inl (fF.bnd wA _)) (λ_=>?_);refine aG.bnd (Fh elem) ?_;rintro zJU zDL zKS _ ⟨rfl,eY⟩;refine aG.ite (λ_=>.inl (fF.then (zj0 _) λ_=>fF.bnd wA _)) (λ_=>?_);refine aG.bnd (A:=l7) (aG.ret rfl) ?_;rintro zL8 zIF m _ rfl;have Pm:=(((sD.mono h3.le).mono h4.le).mono zDL.le).mono zIF.le;have new:∀{R5:Pr},aG P S K (λR a b=>bQ S K R a b) (if(!true)=true then Un size m x else if m*size=0 then pure #[] else do pure (qK (<-zeroValue elem).cells m)) R5 (if(!true)=true then Un size m x' else if m*size=0 then pure #[] else do pure (qK (<-zeroValue elem).cells m)):=by
       intro R5;refine aG.ite (λh=>by cases h) (λ_=>?_);refine aG.ite (λ_=>aG.ret bQ.empty) (λ_=>?_);exact aG.bnd (Qq hz elem) λR6 h6 z z' pY=>aG.ret (zfb pY.cells _)
      refine aG.ite (λ_=>?_) (λ_=>?_)
      .refine aG.bnd new ?_
       intro R5 h5 w w' hw;have zdS:=Pm.mono h5.le
       cases zdS with
       |none=>exact aG.ret (.slice .none)
       |some ha=>
        refine aG.bnd (Xx _ _ 0 (ha.add _) hw.toList) ?_;rintro R6 h6 _ _ rfl;exact aG.ret (.slice (.some (ha.mono h6.le)))
      .refine aG.bnd (Fh elem) ?_
       rintro zKp zEt zKa _ ⟨rfl,yN⟩;refine aG.ite (λ_=>.inl (fF.bnd wA _)) (λ_=>?_);refine aG.bnd (Fh elem) ?_;rintro R6 h6 zIK _ ⟨rfl,zx1⟩;have uE:=(Pm.mono zEt.le).mono h6.le;refine aG.ite (λ_=>.inl (fF.bnd (by rw[if_pos rfl];exact wA) _)) (λ_=>?_);refine aG.bnd (zgh _) ?_;rintro R7 h7 nc _ rfl;refine aG.bnd (Fh elem) ?_;rintro R8 h8 zGK _ ⟨rfl,zGH⟩;refine aG.bnd (znY _) ?_;rintro R9 h9 _ _ rfl;have yX:=((uE.mono h7.le).mono h8.le).mono h9.le;refine aG.bnd (zaQ size n (.slice yX)) ?_;intro zIm Yf o o' ho;refine aG.bnd new ?_;intro zHA zcV w w' hw;refine aG.bnd (Qq hz elem) ?_;intro zHD zcK z z' pY;refine aG.bnd (zcf elem (((ho.mono (zcV.trans zcK).le).append (hw.mono zcK.le)).append (zfb pY.cells _))) ?_;intro zC4 zBZ r r' hr;exact aG.ret (.slice (.some hr))
     |_=>exact .inl bR
    |_=>exact .inl bR
theorem zDX (hz:Ks P S)(ts:Array aM)(t:aM)(h:bQ S K R xs cC):aG P S K (VA S K) (S8 ts t xs) R (S8 ts t cC):=by
 unfold S8
 cases e0:ts[0]? with
 |none=>exact .inl bR
 |some st=>
  have ho:=h.opt 0;generalize xs[0]? =o at ho;generalize cC[0]? =o' at ho;have fin:∀{R2:Pr},aG P S K (VA S K) (pure (.tuple #[])) R2 (pure (.tuple #[])):=aG.ret (VR.tuple' bQ.empty)
  cases ho with
  |none=>exact .inl bR
  |some hs=>
   simp only;refine aG.bnd (mX st) ?_;rintro R1 h1 d _ ⟨rfl,hd⟩
   cases hs with
   |map hm=>
    cases hm with
    |none=>cases d<;>exact fin
    |some hm=>
     cases d
     all_goals
      refine aG.bnd (Vb (h1.le _ _ hm)) ?_;intro R2 h2 o o' ho
      cases ho with
      |map he=>exact aG.bnd (zbJ (h2.le _ _ (h1.le _ _ hm)) (.map ⟨rfl,λi e e' h=>by simp at h⟩)) (λ_ _ _ _ _=>fin)
      |_=>exact .inl (by first|exact bR|exact bR.bnd _)
   |slice hb=>
    rename_i b b' n c
    cases hb with
    |none=>cases d<;>exact fin
    |some ha=>
     cases n with
     |zero=>cases d<;>exact fin
     |succ n=>
      cases d with
      |slice elem=>
       refine aG.bnd (Qq hz elem) ?_;intro R2 h2 z z' pY;refine aG.bnd (Xx _ _ 0 ((ha.mono h1.le).mono h2.le) (zfb pY.cells _).toList) ?_;simp_all
      |_=>exact .inl (bR.bnd _)
   |_=>cases d<;>exact .inl (bR.bnd _)
end
section
variable {P:dQ}{S:aP->Prop}{K:Pr}{α β γ δ:Type}{R:Pr}
theorem zAT (t:aM){v v':aF}(h:VR S K R v v'):aG P S K (VA S K) (zlj t v) R (zlj t v'):=by
 unfold zlj;refine aG.bnd (mX t) ?_;rintro R1 h1 d _ ⟨rfl,hd⟩
 cases d with
 |interface _=>exact .inl bR
 |_=>exact aG.ret (.iface (h.mono h1.le))
theorem zuT {z z':Array aF}(h:bQ S K R z z')(n:Nat):bQ S K R ((N1 n).map (z[·%z.size]!)) ((N1 n).map (z'[·%z'.size]!)):=by
 refine⟨aQ,λi v v' h1 h2=>?_⟩;rw[Dw] at h1 h2;rw[<-h.1] at h2
 cases q:(N1 n)[i]? with
 |none=>rw[q] at h1;cases h1
 |some j=>
  rw[q] at h1 h2;cases h1;cases h2
  cases q1:z[j%z.size]? with
  |none=>
   have q2:=h.none q1;show VR S K R (z[j%z.size]!) (z'[j%z.size]!);rw[getElem!_def,getElem!_def,q1,q2];exact .bool false
  |some u=>
   obtain⟨u',q2,hu⟩:=h.get q1
   grind
theorem zpI (hz:Ks P S)(n:Nat)(e:aM){F F':Array aF->dA aF}(hF:∀R1,y7 P K R R1->∀z z',bQ S K R1 z z'->aG P S K (VA S K) (F z) R1 (F' z')):
 aG P S K (VA S K) (if n=0 then do let z<-pure #[];F z else do let l<-zeroValue e;let z<-pure l.cells;F z) R (if n=0 then do let z<-pure #[];F' z else do let l<-zeroValue e;let z<-pure l.cells;F' z):=by
 split
 .exact aG.bnd (aG.ret (A:=λR a b=>bQ S K R a b) bQ.empty) hF
 .refine aG.bnd (Qq hz e) ?_
  intro R1 h1 z z' pY;exact aG.bnd (aG.ret (A:=λR a b=>bQ S K R a b) pY.cells) (λR2 h2 a b qY=>hF R2 (h1.trans h2) a b qY)
theorem zC3 (hz:Ks P S)(t:aM){l l' c c':aF}(hl:VR S K R l l')(hc:VR S K R c c'):aG P S K (VA S K) (zkF t l c) R (zkF t l' c'):=by
 unfold zkF;refine aG.bnd (mX t) ?_;rintro R1 h1 d _ ⟨rfl,hd⟩
 cases d with
 |slice elem=>
  refine aG.bnd (Xg (hl.mono h1.le)) ?_;rintro R2 h2 ln _ rfl;refine aG.bnd (Xg ((hc.mono h1.le).mono h2.le)) ?_;rintro R3 h3 cp _ rfl;refine aG.bnd (Fh elem) ?_;rintro R4 h4 inf _ ⟨rfl,hi⟩;simp only;split
  .left
   split
   .exact wA.bnd _
   .split
    .exact wA.bnd _
    .exact fF.then (zj0 _) λ_=>wA.bnd _
  .refine aG.bnd (znY _) ?_
   rintro R5 h5 _ _ rfl;refine aG.bnd (Br elem) ?_;rintro R6 h6 sz _ rfl;refine zpI hz _ elem ?_;intro R7 h7 z z' pY;refine aG.bnd (zcf elem (zuT pY _)) ?_;intro R8 h8 r r' hr;exact aG.ret (.slice (.some hr))
 |_=>exact .inl bR
inductive PsR (S:aP->Prop)(K R:Pr):List (Nat×aF)->List (Nat×aF)->Prop
 |nil:PsR S K R [] []
 |cons {i:Nat} {v v':aF} {l l':List (Nat×aF)}:VR S K R v v'->PsR S K R l l'->PsR S K R ((i,v)::l) ((i,v')::l')
theorem PsR.mono {R':Pr}(hR:R.le R'){l l':List (Nat×aF)}(h:PsR S K R l l'):PsR S K R' l l':=by
 induction h with
 |nil=>exact .nil
 |cons a _ ih=>exact .cons (a.mono hR) ih
inductive OarR (S:aP->Prop)(K R:Pr):Option (Array aF)->Option (Array aF)->Prop
 |none:OarR S K R none none
 |some {c c':Array aF}:bQ S K R c c'->OarR S K R (some c) (some c')
theorem zo1 (off:Nat):∀(l l':List aF) (j:Nat) {c c':Array aF},xW S K R l l'->bQ S K R c c'->
 bQ S K R ((l.zipIdx j).foldl (λcs (x:aF×Nat)=>cs.setIfInBounds (off+x.2) x.1) c) ((l'.zipIdx j).foldl (λcs (x:aF×Nat)=>cs.setIfInBounds (off+x.2) x.1) c')
 |[],[],j,c,c',_,h=>h
 |[],_::_,_,_,_,h,_=>by have:=h.1;simp at this
 |_::_,[],_,_,_,h,_=>by have:=h.1;simp at this
 |x::l,x'::l',j,c,c',h,hc=>by
  obtain⟨a,b⟩:=h.cons;simp only[List.zipIdx_cons,List.foldl_cons];exact zo1 off l l' (j+1) b (hc.set _ a)
theorem ziu (place:Nat->Option (Nat×Nat)):∀(l l':List (Nat×aF)) {c c':Array aF},PsR S K R l l'->bQ S K R c c'->OarR S K R (Nn place c l) (Nn place c' l')
 |[],_,c,c',.nil,h=>.some h
 |(i,v)::l,(_,v')::l',c,c',.cons a b,h=>by
  unfold Nn
  cases place i with
  |none=>exact .none
  |some os=>
   obtain⟨off,size⟩:=os;have e1:=a.cells.1;have e2:=h.1;simp only;rw[e1,e2];split
   .exact .none
   .refine ziu place l l' b ?_
    have:=zo1 off v.cells.toList v'.cells.toList 0 a.cells.toList h;rw[<-zqV,<-zqV];simpa using this
variable {ps Sp:Array (Nat×aF)}
theorem zBX (hz:Ks P S)(t:aM)(n:Nat)(h:PsR S K R ps.toList Sp.toList):aG P S K (VA S K) (zjP t n ps) R (zjP t n Sp):=by
 unfold zjP;refine aG.bnd (mX t) ?_;rintro R1 h1 d _ ⟨rfl,hd⟩
 cases d with
 |slice elem=>
  refine aG.bnd (Br elem) ?_;rintro R2 h2 size _ rfl;simp only;split
  .exact .inl (fF.bnd jT _)
  .refine zpI hz _ elem ?_
   intro R3 h3 z z' pY;have hf:=ziu (λi=>some (i*size,size)) _ _ (((h.mono h1.le).mono h2.le).mono h3.le) (zuT pY (n*size));revert hf;generalize Nn _ _ ps.toList=o;generalize Nn _ _ Sp.toList=o';intro hf
   cases hf with
   |none=>exact .inl bR
   |some hc=>
    refine aG.bnd (zcf elem hc) ?_;intro R8 h8 r r' hr;exact aG.ret (.slice (.some hr))
 |_=>exact .inl bR
theorem zqf {ι κ:Type}{f:ι->dA κ}(hf:∀x (R:Pr),aG P S K l7 (f x) R (f x)):∀(l:List ι) {R:Pr},aG P S K l7 (l.mapM f) R (l.mapM f)
 |[],R=>by rw[List.mapM_nil];exact aG.ret rfl
 |x::l,R=>by
  rw[List.mapM_cons];refine aG.bnd (hf x R) ?_;rintro R1 h1 a _ rfl;refine aG.bnd (zqf hf l) ?_;rintro R2 h2 b _ rfl;exact aG.ret rfl
theorem zAA (hz:Ks P S)(t:aM)(h:PsR S K R ps.toList Sp.toList):aG P S K (VA S K) (zin t ps) R (zin t Sp):=by
 have fin:∀{R3:Pr} (place:Nat->Option (Nat×Nat)) (Vh:String) {z z':Array aF},R.le R3->bQ S K R3 z z'->aG P S K (VA S K) (match Nn place z ps.toList with|some cells=>pure (.agg cells)|_=>stuck Vh) R3 (match Nn place z' Sp.toList with|some cells=>pure (.agg cells)|_=>stuck Vh):=by
  intro R3 place Vh z z' hle pY;have hf:=ziu place _ _ (h.mono hle) pY;revert hf;generalize Nn _ _ ps.toList=o;generalize Nn _ _ Sp.toList=o';intro hf
  cases hf with
  |none=>exact .inl bR
  |some hc=>exact aG.ret (VR.agg' hc)
 unfold zin;refine aG.bnd (Qq hz t) ?_;intro R1 h1 z z' pY;refine aG.bnd (mX t) ?_;rintro R2 h2 d _ ⟨rfl,hd⟩
 cases d with
 |struct fields=>
  refine aG.bnd (A:=l7) ?_ ?_
  .rw[Array.mapM_eq_mapM_toList,map_eq_pure_bind]
   refine aG.bnd (zqf (λf R=>aG.bnd (Br _) (λR1 h1 a b e=>by cases e;exact aG.ret rfl)) fields.toList) ?_;rintro R3 h3 l _ rfl;exact aG.ret rfl
  .rintro R3 h3 places _ rfl
   exact fin _ _ (h1.trans (h2.trans h3)).le ((pY.cells.mono h2.le).mono h3.le)
 |array n elem=>
  refine aG.bnd (Br elem) ?_;rintro R3 h3 size _ rfl;exact fin _ _ (h1.trans (h2.trans h3)).le ((pY.cells.mono h2.le).mono h3.le)
 |_=>exact .inl bR
end
section
variable {P:dQ}{S:aP->Prop}{K:Pr}{R:Pr}
theorem zqg (op:Ny)(k:Dr)(a b:Int):aG P S K (VA S K) (zuk op k a b) R (zuk op k a b):=by
 cases op<;>first|exact aG.ret (.int _ _)|exact .inl bR
theorem zGO (op:Ny)(k:Dr)(a b:Int):aG P S K (VA S K) (zm7 op k a b) R (zm7 op k a b):=by
 unfold zm7;split
 .exact .inl wA
 .cases op<;>first|exact aG.ret (.int _ _)|exact .inl bR
theorem zuW (op:Ny)(k:Dr)(a b:Int):aG P S K (VA S K) (zsk op k a b) R (zsk op k a b):=by
 cases op<;>first|exact aG.ret (.int _ _)|exact .inl bR
theorem zqR (op:Ny)(k:Dr)(a:Int)(k':Dr)(b:Int):aG P S K (VA S K) (zio op k a k' b) R (zio op k a k' b):=by
 unfold zio;split
 .exact .inl wA
 .cases op<;>first|exact aG.ret (.int _ _)|exact .inl bR
theorem zlL (op:Ny)(a b:Int):aG P S K (VA S K) (Op.intCmp op a b) R (Op.intCmp op a b):=by
 cases op<;>first|exact aG.ret (.bool _)|exact .inl bR
theorem zhm (op:Ny)(a b:ByteArray):aG P S K (VA S K) (zmk op a b) R (zmk op a b):=by
 unfold zmk;cases op<;>first|exact aG.ret (.bool _)|exact .inl bR|skip
 simp only;split
 .exact .inl jT
 .exact aG.ret (.string _)
variable {x x':aF}
theorem zEX (op:UnOp)(h:VR S K R x x'):aG P S K (VA S K) (Op.unary op x) R (Op.unary op x'):=by
 cases h with
 |int k n=>cases op<;>first|exact zqg .sub k 0 n|exact zuW .xor k _ n|exact .inl bR
 |bool b=>cases op<;>first|exact aG.ret (.bool _)|exact .inl bR
 |pointer h=>cases h<;>cases op<;>first|exact .inl jT|exact .inl bR
 |_=>cases op<;>exact .inl bR
theorem dQ.cellOfByte_g (P:dQ):∀(d:Nat) (t:aM) (o:Nat),cellOfByte P.g d t o=cellOfByte P.c d t o:=by
 intro d
 induction d with
 |zero=>intro t o;rfl
 |succ d ih=>
  intro t o;unfold cellOfByte;rw[P.underlying_g];simp only[ih,P.cells_g,P.bytes_g];rfl
theorem dQ.cellAtBytes_g (P:dQ)(d:Nat)(e:aM)(c o:Nat)(b:Int):cellAtBytes P.g d e c o b=cellAtBytes P.c d e c o b:=by
 unfold cellAtBytes;simp only[P.cells_g,P.bytes_g,P.byteOfCell_g,P.cellOfByte_g];rfl
variable {y y':aF}
theorem zsX (ts:Array aM)(t:aM)(hx:VR S K R x x')(hy:VR S K R y y'):aG P S K (λR v v'=>∃a a',v=.pointer a/\v'=.pointer a'/\yB R a a') (Nl ts t #[x,y]) R (Nl ts t #[x',y']):=by
 unfold Nl
 cases hx with
 |pointer hp=>
  refine aG.bnd (Xg hy) ?_;rintro R1 h1 n _ rfl;by_cases hn:n=0
  .simp only[if_pos hn]
   cases hp with
   |none=>exact .inl jT
   |some ha=>
    cases ha with
    |mk hr=>
     refine aG.bnd (zwf (h1.le _ _ hr)) ?_;rintro R2 h2 _ _ ⟨rfl,rfl⟩;exact aG.ret ⟨_,_,rfl,rfl,.some (.mk (h2.le _ _ (h1.le _ _ hr)))⟩
  .simp only[if_neg hn]
   by_cases h0:n<0
   .simp only[if_pos h0]
    exact .inl (fF.bnd jT _)
   .simp only[if_neg h0]
    cases hp with
    |none=>exact .inl jT
    |some ha=>
     cases ha with
     |mk hr=>
      refine aG.bnd (zc6 (h1.le _ _ hr)) ?_;rintro R2 h2 x _ rfl
      cases x with
      |none=>exact .inl jT
      |some x=>
       obtain⟨e,n⟩:=x;refine aG.bnd U1 ?_;rintro R3 h3 p q ⟨rfl,rfl⟩;simp only[P.cells_g,P.depth_g,P.cellAtBytes_g];split
       .exact aG.ret ⟨_,_,rfl,rfl,.some (.mk (h3.le _ _ (h2.le _ _ (h1.le _ _ hr))))⟩
       .exact .inl jT
 |_=>exact .inl bR
theorem zax (ts:Array aM)(t:aM)(hx:VR S K R x x')(hy:VR S K R y y'):aG P S K (VA S K) (Nl ts t #[x,y]) R (Nl ts t #[x',y']):=
 (zsX ts t hx hy).mono λR' _ a b h=>by
  obtain⟨p,p',rfl,rfl,h⟩:=h;exact .pointer h
variable {a':bC}
theorem zy9 {a:bC}(h:fT R a a')(l:Bool):aG P S K (VA S K) (asNumber a l) R (asNumber a' l):=by
 unfold asNumber;refine aG.bnd (zhY (.number h)) ?_;rintro R1 h1 n n' hn;exact aG.ret (.pointer (.some (.mk hn)))
theorem zBM {a:bC}(h:fT R a a'):aG P S K (λR x y=>fT R x.1 y.1/\x.2=y.2) (behindNumber a) R (behindNumber a'):=by
 have h0:=h
 cases h with
 |mk h=>
  unfold behindNumber;refine aG.bnd (zoe h) ?_;rintro R1 h1 x y (⟨rfl,rfl⟩|⟨p,p',l,rfl,rfl,hp⟩)
  .exact aG.ret ⟨h0.mono h1.le,rfl⟩
  .exact aG.ret ⟨hp,rfl⟩
theorem znQ (t:aM)(hx:VR S K R x x')(hy:VR S K R y y'):aG P S K (VA S K) (movedNumber t x y) R (movedNumber t x' y'):=by
 unfold movedNumber;refine aG.bnd (mX t) ?_;rintro R1 h1 d _ ⟨rfl,_⟩
 have k:aG P S K (VA S K) (do
  let .pointer (some n):=x|Nl #[] t #[x,y]
  let(a,lost)<-behindNumber n
  match<-Nl #[] t #[.pointer (some a),y] with
  | .pointer (some b)=>asNumber b lost
  |v=>pure v) R1 (do
  let .pointer (some n):=x'|Nl #[] t #[x',y']
  let(a,lost)<-behindNumber n
  match<-Nl #[] t #[.pointer (some a),y'] with
  | .pointer (some b)=>asNumber b lost
  |v=>pure v):=by
  have N8:=hx.mono h1.le;have zlg:=hy.mono h1.le
  cases hx with
  |pointer hp=>
   cases hp with
   |none=>exact zax _ _ N8 zlg
   |some ha=>
    refine aG.bnd (zBM (ha.mono h1.le)) ?_;rintro R2 h2 ⟨a,l⟩ ⟨a',l'⟩ ⟨h3,h4⟩;simp only at h3 h4;subst h4;refine aG.bnd (zsX _ _ (.pointer (.some h3)) (zlg.mono h2.le)) ?_;rintro R3 h5 v v' ⟨p,p',rfl,rfl,hb⟩
    cases hb with
    |none=>exact aG.ret (.pointer .none)
    |some hb=>exact zy9 hb _
  |junk _=>exact .inl bR
  |_=>exact zax _ _ N8 zlg
 cases d<;>first|exact k|exact .inl jT|exact .inl (fF.bnd jT _)
theorem zB4 (t:aM)(hx:VR S K R x x')(hy:VR S K R y y'):aG P S K (VA S K) (movedPointer t x y) R (movedPointer t x' y'):=by
 unfold movedPointer;have tX:=hx
 cases hx with
 |pointer hp=>
  cases hp with
  |none=>exact zax _ _ tX hy
  |some ha=>
   have Qu:=ha
   cases ha with
   |mk hr=>
    refine aG.bnd (zoe hr) ?_;rintro R1 h1 x y (⟨rfl,rfl⟩|⟨p,p',l,rfl,rfl,hp⟩)
    .exact zax #[] t (tX.mono h1.le) (hy.mono h1.le)
    .exact .inl jT
 |_=>exact zax _ _ tX hy
end
section
variable {P:dQ}{S:aP->Prop}{K:Pr}{R:Pr}
variable {a a' b b':bC}
theorem zxd (hR:uA P K R)(ha:fT R a a')(hb:fT R b b'):aG P S K l7 (zkW a b) R (zkW a' b'):=by
 unfold zkW;refine aG.bnd zkt ?_;rintro R1 _ p q ⟨rfl,rfl,rfl⟩;have e1:=fT.block_eq hR ha hb;have e2:=fT.low hR ha;have e3:decide (a.block>=P.globals.size)=decide (a'.block>=P.globals.size):=by
  have:=decide_eq_decide.1 e2;exact decide_eq_decide.2 aC
 have hc:(a.block !=b.block||decide (a.block>=P.g.globals.size))=(a'.block !=b'.block||decide (a'.block>=P.c.globals.size)):=by
  rw[P.globals_g];show(!(a.block==b.block)||_)=(!(a'.block==b'.block)||_);rw[e1];congr 1
 by_cases h:(a.block !=b.block||decide (a.block>=P.g.globals.size))=true
 .simp only[if_pos h]
  exact .inl (fF.bnd jT _)
 .have h':¬(a'.block !=b'.block||decide (a'.block>=P.c.globals.size))=true:=by rw[<-hc];exact h
  simp only[if_neg h,if_neg h'];refine aG.bnd (Ub ha) ?_;rintro R4 h4 m _ rfl;refine aG.bnd (Ub (hb.mono h4.le)) ?_;rintro R5 h5 m' _ rfl;exact aG.ret rfl
theorem zG3 (hR:uA P K R)(k:Dr)(ha:fT R a a')(hb:fT R b b'):aG P S K (VA S K) (zkS k a b) R (zkS k a' b'):=by
 unfold zkS;refine aG.bnd (zxd hR ha hb) ?_;rintro R1 _ ⟨x,y⟩ _ rfl;exact aG.ret (.int _ _)
theorem zEN (hR:uA P K R)(op:Ny)(ha:fT R a a')(hb:fT R b b'):aG P S K (VA S K) (zie op a b) R (zie op a' b'):=by
 unfold zie;refine aG.bnd (zxd hR ha hb) ?_;rintro R1 _ ⟨x,y⟩ _ rfl;cases op<;>first|exact aG.ret (.bool _)|exact .inl jT
theorem zsP (k:Dr)(ha:fT R a a')(n:Int):aG P S K (VA S K) (zmc k a n) R (zmc k a' n):=by
 unfold zmc;have Qu:=ha
 cases ha with
 |mk hr=>
  refine aG.bnd (zc6 hr) ?_;rintro R1 h1 x _ rfl
  cases x with
  |none=>exact .inl jT
  |some x=>
   obtain⟨e,c⟩:=x;refine aG.bnd (Fh e) ?_;rintro R2 h2 i _ ⟨rfl,_⟩;simp only;split
   .exact .inl (fF.bnd jT _)
   .refine aG.bnd (Ub (Qu.mono (h1.trans h2).le)) ?_
    rintro R3 h3 m _ rfl;exact aG.ret (.int _ _)
theorem zCI (op:Ny)(t:aM){x y:aF}(ho:op≠ .eql/\op≠ .neq)(hx:∀k n,x≠ .int k n)(hs:∀s,x≠ .string s)(hp:∀a,x≠ .pointer a)(hf:∀k n,x≠ .float k n)(hc:∀k n m,x≠ .complex k n m):fF P (binOp op t x y):=by
 unfold binOp;split<;>first|exact bR|exact jT|(exfalso;first|exact hx _ _ rfl|exact hs _ rfl|exact hp _ rfl|exact hf _ _ rfl|exact hc _ _ _ rfl|exact ho.1 rfl|exact ho.2 rfl)
theorem zDc (op:Ny)(t:aM)(ho:op≠ .eql/\op≠ .neq)(hR:uA P K R){x x' y y':aF}(hx:VR S K R x x')(hy:VR S K R y y'):
 aG P S K (VA S K) (binOp op t x y) R (binOp op t x' y'):=by
 have tX:=hx;have zdl:=hy
 cases hx with
 |int k a=>
  cases hy with
  |int k' b=>
   by_cases hk:k=k'
   .subst hk
    cases op<;>simp only[binOp,ne_eq,not_true_eq_false,if_false]<;>first|exact zqg _ _ _ _|exact zGO _ _ _ _|exact zuW _ _ _ _|exact zqR _ _ _ _ _|exact zlL _ _ _
   .cases op<;>simp only[binOp,ne_eq,hk,not_false_eq_true,if_true]<;>first|exact zqR _ _ _ _ _|exact .inl bR
  |pointer hp=>
   cases op<;>first|exact absurd rfl ho.1|exact absurd rfl ho.2|exact znQ t zdl tX|skip
   all_goals(cases hp<;>first|exact .inl jT|skip)
   rename_i hb;refine aG.bnd (zu9 hb) ?_;intro R1 h1 u v zmn;exact zsP _ zmn _
  |_=>cases op<;>first|exact absurd rfl ho.1|exact absurd rfl ho.2|exact .inl bR
 |string a=>
  cases hy with
  |string b=>cases op<;>simp only[binOp]<;>exact zhm _ _ _
  |pointer hp=>cases op<;>first|exact absurd rfl ho.1|exact absurd rfl ho.2|exact .inl jT
  |_=>cases op<;>first|exact absurd rfl ho.1|exact absurd rfl ho.2|exact .inl bR
 |pointer hp=>
  cases hy with
  |int k n=>
   have e:∀m,VR S K R (.int k m) (.int k m):=λm=>.int k m;cases op<;>first|exact absurd rfl ho.1|exact absurd rfl ho.2|exact znQ t tX (e _)|skip
   all_goals first|(cases hp<;>first|exact .inl jT|(rename_i hb;refine aG.bnd (zu9 hb) ?_;intro R1 h1 u v zmn;exact zsP _ zmn _))|skip
   all_goals
    simp only[binOp];refine aG.bnd (mX t) ?_;rintro R1 h1 d _ ⟨rfl,_⟩;cases d<;>first|exact zB4 t (tX.mono h1.le) (zdl.mono h1.le)|exact znQ t (tX.mono h1.le) (zdl.mono h1.le)
  |pointer hq=>
   cases hp with
   |none=>cases hq<;>cases op<;>first|exact absurd rfl ho.1|exact absurd rfl ho.2|exact .inl jT
   |some ha=>
    cases hq with
    |none=>cases op<;>first|exact absurd rfl ho.1|exact absurd rfl ho.2|exact .inl jT
    |some hb=>
     have two:∀{F F':bC->bC->dA aF},(∀u u' v v',fT R u u'->fT R v v'->aG P S K (VA S K) (F u v) R (F' u' v'))->∀{a1 zkf a2 zlE},fT R a1 zkf->fT R a2 zlE->
      aG P S K (VA S K) (do F (<-behindNumber a1).1 (<-behindNumber a2).1) R (do F' (<-behindNumber zkf).1 (<-behindNumber zlE).1):=by
      intro F F' hF a1 zkf a2 zlE h1 h2;refine aG.bnd (zgj h1) ?_;rintro R1 _ u u' ⟨rfl,hu⟩;refine aG.bnd (zgj h2) ?_;rintro R2 _ v v' ⟨rfl,hv⟩;exact hF _ _ _ _ hu hv
     cases op<;>first|exact absurd rfl ho.1|exact absurd rfl ho.2|exact .inl jT|exact two (λu u' v v' h1 h2=>zG3 hR _ h1 h2) ha hb|exact two (λu u' v v' h1 h2=>zEN hR _ h1 h2) ha hb
  |_=>cases op<;>first|exact absurd rfl ho.1|exact absurd rfl ho.2|exact .inl jT|(cases hp<;>exact .inl jT)
 |_=>exact .inl (zCI op t ho aQ aQ aQ aQ aQ)
end
def Ends {α:Type}(r:Result α):Prop:=(∃x w',r=.ok x w')\/∃h w',r=.halt h w'/\Zz h
def Ends.halt {h:Halt}(ht:Zz h):Ends (.halt h w:Result α):=.inr ⟨h,w,rfl,ht⟩
theorem aG.tame {A:Pr->α->β->Prop}{G:Gp}(hG:G=P.gp)(s:dA α):
 ∀{R:Pr} {w W:aE} {s':dA β},aG P S K A s R s'->dB S K R G St w W->Tp w W->Ends (s.run P.g w):=by
 induction s with
 |pure a=>
  rintro R w W s' (hn|⟨b,rfl,h⟩) hw ht
  .exact .inr (hn _ hw.np)
  exact .inl ⟨a,w,rfl⟩
 |load m a k ih=>
  rintro R w W s' (hn|⟨rfl,a',k',rfl,ha,hk⟩) hw ht
  .exact .inr (hn _ hw.np)
  obtain⟨qY⟩:=ha;rename_i b b' o sp;obtain⟨ob,Dq,h1,h2,h3⟩:=hw.cont b b' qY
  cases h3 with
  |cells hc hz=>
   rename_i c c' T fz Kk
   cases sp with
   |some sp=>simp only[bN,lW,h1,zX,r8];exact .halt trivial
   |none=>
    cases hv:c[o]? with
    |none=>simp only[bN,lW,h1,zX,r8,hv];exact .halt trivial
    |some v=>
     obtain⟨v',Mi,rI⟩:=hc.get hv;have e1:w.cell? ⟨b,o,none⟩=some v:=by simp[lW,h1,hv]
     rw[bN,e1];exact ih v (hk v v' rI) hw ht
  |_=>simp only[bN,lW,h1,zX,r8];exact .halt trivial
 |store m a v k ih=>
  rintro R w W s' (hn|⟨rfl,a',v',k',rfl,ha,hv,hk⟩) hw ht
  .exact .inr (hn _ hw.np)
  obtain⟨qY⟩:=ha;rename_i b b' o sp;by_cases Tv:∃cs,v=.agg cs
  .obtain⟨cs,rfl⟩:=Tv;rw[bN];exact .halt trivial
  by_cases F5:∃cs,v=.tuple cs
  .obtain⟨cs,rfl⟩:=F5;rw[bN];exact .halt trivial
  rw[bN]
  rotate_left
  .simp_all
  .simp_all
  obtain⟨ob,Dq,h1,h2,h3⟩:=hw.cont b b' qY
  cases h3 with
  |cells hc hz=>
   rename_i c c' T fz Kk
   cases sp with
   |some sp=>simp only[lW,h1,Eu,r8];exact .halt trivial
   |none=>
    cases gZ:c[o]? with
    |none=>simp only[lW,h1,Eu,r8,gZ];exact .halt trivial
    |some v0=>
     have e1:w.cell? ⟨b,o,none⟩=some v0:=by simp[lW,h1,gZ]
     rw[e1];simp only
     cases oC:w.frozen? ⟨b,o,none⟩ with
     |true=>exact .halt trivial
     |false=>
      simp only[iA,if_false];have Xz:¬Lp fz o:=by
       intro⟨z1,z2⟩;simp[I8,h1,z1,z2] at oC
      have As:¬St b:=by
       intro hs;obtain⟨_,c2,T2,hi,g1,g2⟩:=hw.st b hs;rw[h1] at g1;injection g1 with g1;injection g1 with g1 _ g3;subst g1 g3;exact Xz ⟨lU _,jP (eM.1 gZ).1 g2⟩
      rw[Zv h1];have st:=nK.upd hw qY As (o0.cells (T:=T) (hc.set o hv) hz);exact ih hk st.rel (ht.step st)
  |_=>simp only[lW,h1,Eu,r8];exact .halt trivial
 |new o k ih=>
  rintro R w W s' (hn|⟨o',k',rfl,ho,hk⟩) hw ht
  .exact .inr (hn _ hw.np)
  rw[bN];have st:=nK.push hw ho;exact ih _ (hk _ _ ⟨λb hb=>absurd (hw.lt _ _ hb).1 (J9 _),λa ha=>absurd (hw.lt _ _ ha).2 (J9 _),by subst hG;exact hw.gle⟩) st.rel (ht.step st)
 |shape r k ih=>
  rintro R w W s' (hn|⟨r',k',rfl,qS,hk⟩) hw ht
  .exact .inr (hn _ hw.np)
  rw[bN];exact ih _ (hk _) hw ht
 |freeze a n k ih=>
  rintro R w W s' (hn|h) hw ht
  .exact .inr (hn _ hw.np)
  .exact h.elim
 |frozen a k ih=>
  rintro R w W s' (hn|⟨r',k',rfl,hk⟩) hw ht
  .exact .inr (hn _ hw.np)
  rw[bN];exact ih _ (hk _ true) hw ht
 |getObj r k ih=>
  rintro R w W s' (hn|⟨r',k',rfl,qS,hk⟩) hw ht
  .exact .inr (hn _ hw.np)
  rw[bN];rcases hw.orR qS with x|x
  .obtain⟨ob,Dq,h1,h2,h3⟩:=hw.cont r r' x
   rw[h1];have go:Ends ((k ob).run P.g w):=ih ob (hk _ _ h3) hw ht;cases h3<;>first|exact go|exact .halt trivial
  .rw[x];exact .halt trivial
 |setObj r o k ih=>
  rintro R w W s' (hn|⟨r',o',k',rfl,qS,ho,hk⟩) hw ht
  .exact .inr (hn _ hw.np)
  rw[bN];rcases hw.orR qS with x|x
  .obtain⟨ob,Dq,h1,h2,h3⟩:=hw.cont r r' x
   rw[h1];have go:(∀c T fz,ob≠ .cells c T fz)->Ends (k.run P.g {w with heap:=w.heap.setIfInBounds r o}):=λn1=>by
    have As:¬St r:=by
     intro hs;obtain⟨_,c2,T2,hi,g1,g2⟩:=hw.st r hs;rw[h1] at g1;injection g1 with g1;exact n1 _ _ _ g1
    have st:=nK.upd hw x As ho;exact ih hk st.rel (ht.step st)
   cases h3<;>first|exact go aQ|exact .halt trivial
  .rw[x];exact .halt trivial
 |choose q k ih=>
  rintro R w W s' (hn|⟨k',rfl,hk⟩) hw ht
  .exact .inr (hn _ hw.np)
  rw[bN]
  cases hq:q.forced with
  |true=>
   simp only[if_true];exact ih 0 (hk 0) hw ht
  |false=>
   simp only[iA,if_false];have st:=nK.draw hw;exact ih _ (hk _) st.rel (ht.step st)
 |sys c k ih=>
  rintro R w W s' (hn|h) hw ht
  .exact .inr (hn _ hw.np)
  .exact h.elim
 |program k ih=>
  rintro R w W s' (hn|⟨k',rfl,hk⟩) hw ht
  .exact .inr (hn _ hw.np)
  rw[bN];exact ih _ hk hw ht
 |mark m k ih=>
  rintro R w W s' (hn|⟨rfl,k',rfl,hk⟩) hw ht
  .exact .inr (hn _ hw.np)
  rw[bN];exact ih hk hw ht
 |halt h=>
  rintro R w W s' (hn|hx) hw ht
  .exact .inr (hn _ hw.np)
  .exact hx.elim
end Go.Tt
