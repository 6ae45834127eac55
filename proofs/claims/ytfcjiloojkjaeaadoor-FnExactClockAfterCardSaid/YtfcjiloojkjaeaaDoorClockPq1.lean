/-
  Part 1 of what stands behind the last text.
-/
import Derived.Test.YtfcjiloojkjaeaaDoorRows
import Derived.Lib.SmallJoins
import Derived.WalkSpells
import Derived.WalkLawsBesides
import Derived.BigQuiet
import Derived.Deep.OwnRows
import Derived.Deep.AppendLies
import Derived.Deep.AppendSrc
import Derived.Deep.RegionLaw
import Derived.Lib.ItoaLen
import Derived.Deep.Matrix
import Derived.Deep.RegionHeld3
import Derived.Deep.CutRange
import Derived.Conc.Own
set_option linter.all false
open Array renaming foldl_toList→ztq,getD_eq_getD_getElem?→tD,getElem?_eq_getElem→nA,getElem?_eq_none→G4,getElem?_eq_none_iff→zvv,getElem?_eq_some_iff→dM,getElem?_map→xP,getElem?_modify→zj5,getElem?_push→Xh,getElem?_push_lt→Q7,getElem?_setIfInBounds_ne→jM,getElem?_setIfInBounds_self_of_lt→Mb,range→J7
open Bool renaming eq_iff_iff→My,false_eq_true→iU
open Go renaming Addr→bO,BinOp→Lo,BoundsCode→zlH,Calls→iE,FuncId→aN,IntKind→E8,MapEntry→oS,MemPlace→zqd,Obj→sY,Oper→aY,Operand→cM,Program→bS,Sem→cS,TypeDesc→Xu,TypeId→aM,TypeInfo→wI,Value→aF,World→aE,heap_alloc_new→lO,info_parts→y3,run_append_own_at→zuQ,yielded→dN
open Go.Addr renaming add→zdT
open Go.Builtin renaming append_→wG,cap_→zmC,clear_→Qn,copy_→C8,delete_→Kd,firstCells→Sl,holdsCells→zjm,lenOf→zoB,len_→zjo,mayShare→ztD,unsafeAdd_→Ms,zeroCells→pS
open Go.ByteArray renaming toList_eq→ztt
open Go.DataW renaming Trod→zos,trod_int→Yj
open Go.Ending renaming returned→Ud
open Go.Instr renaming alloc→zim,box→zkF,build→zmk,buildSlice→ziN,checkKey→Ga,extract→ziC,fieldAt→zlA,fill→Mn,findAsking→Jm,findKey→J8,findNow→Gt,index→zm0,indexAt→zir,keyThatStays→Oa,loadAt→zj9,lookup→yP,makeChan→zg6,makeInterface→zgZ,makeMap→zif,makeSlice→zeT,mapUpdate→Gg,sameBits→zb5,sameNow→vF,slice→Ub,sliceAt→Ui,sliceBound→Lg,sliceBounds→Xp,storeAt→zmt,sureAddr→zuy
open Go.Lib renaming decDigits→Us,itoa→Ld
open Go.Obj renaming cells→znI
open Go.Op renaming addrCmp→zja,addrMod→zkc,addrSub→zhl,equal→yQ,equalIn→Db,intArith→zwq,intBits→zwO,intDiv→zmO,shift→zjD,stringOp→zhu,twoPlaces→zjp
open Go.Oper renaming wp→Ay
open Go.Proofs.Tryd renaming func10→zog,func4→zu0,func9→znE,ntmps10→znT,ntmps4→zpX,ntmps9→ztv,prog→aK,underlying37→Je
open Go.Region renaming wanted→dA
open Go.Result renaming andThen_ok→D8
open Go.RowKit renaming Below→bU
open Go.RowKit.Below renaming heap_alloc→tL,heap_setCell→dZ,refl→eR
open Go.Sem renaming events→vV,run→bD,runT→yV,run_bind→D5,run_bind'→q9,run_pure→Ib
open Go.Value renaming cells→Rh,okWide→ztS,oneCell'→zr2,ownBlock→K9,tuple→Ys
open Go.World renaming block_lt_of_cell?→zt6,cell?→kY,cell?_of_block→Co,farLoad→x4,farStore→Cr,frozen?→To,news_of_block→Em,noCell→qJ,setCell→zi2,shape?→zb1,size_setCell→sE
open List renaming cons_append→Qt,dropWhile_cons→zsV,ext_getElem?→X5,filter_append→Pd,filter_cons→ztC,find?_cons→zpe,findIdx?_cons→zxn,flatMap_cons→zaw,getElem?_eq_getElem→lP,getElem?_eq_none→Gk,getElem?_eq_some_iff→jW,getElem?_modify→zG,length_append→gJ,length_cons→pG,length_drop→xS,length_filter_le→zbe,length_modify→Gj,length_nil→tV,length_take→rJ,map_cons→fG,map_nil→tH,map_toArray→uG,mem_cons→iX,mem_iff_getElem→Kh,mem_map→Hv,mem_of_getElem?→dS,nil_append→zdY,range→gD,takeWhile_cons→zbx,take_add_one→L0,take_of_length_le→yR
open Nat renaming add_assoc→Xg,le_refl→aZ,le_trans→eP,lt_irrefl→Cb,lt_of_lt_of_le→lA,lt_or_ge→nM,lt_succ_self→wL,mul_le_mul_right→zT,succ_mul→zmy,zero_add→rL,zero_le→lB,zero_mul→zaS
open Option.some renaming inj→cD,injEq→fS
open Pure renaming pure→kE
open UInt8 renaming ofNat→zb6
structure pP (P:Prop):Prop where
 o:P
def aC {P:Prop}(h:P):pP P:=⟨h⟩
set_option maxHeartbeats 16000000
set_option maxRecDepth 100000
namespace Go
theorem aD{P:Prop}(h:P:=by omega):P:=h
theorem aH{P:Prop}(h:P:=by decide):P:=h
theorem aS{P:Prop}(h:P:=by kernel_rfl):P:=h
theorem aQ{P:Prop}(h:P:=by simp):P:=h
theorem Ru{P:Prop}(h:P:=by intro u hu;simp[bJ.cells] at hu;rcases hu with rfl|rfl<;>rfl):P:=h
theorem rF{P:Prop}(h:P:=by simp;omega):P:=h
theorem Me{P:Prop}(h:P:=by intro u hu;simp at hu;subst hu;rfl):P:=h
theorem zu8{P:Prop}(h:P:=by(repeat' (first|with_reducible assumption|with_reducible exact zaF (by assumption)|with_reducible exact eR _ _|with_reducible apply dO|with_reducible apply zbw))):P:=h
theorem pT{P:Prop}(h:P:=by go_num):P:=h
theorem F5{P:Prop}(h:P:=by simp[K9];omega):P:=h
theorem zwl{P:Prop}(h:P:=by intro k hk aT;have cN:k=0\/k=1\/k=2\/k=3\/k=4\/k=6:=(by omega);rcases cN with rfl|rfl|rfl|rfl|rfl|rfl<;>rfl):P:=h
theorem zoT{P:Prop}(h:P:=by intro k hk aT;have cN:k=0\/k=1\/k=2\/k=3\/k=4\/k=5:=(by omega);rcases cN with rfl|rfl|rfl|rfl|rfl|rfl<;>rfl):P:=h
theorem Jn{P:Prop}(h:P:=by simp only;omega):P:=h
theorem zez{P:Prop}(h:P:=by rw[hl.o];exact aZ _):P:=h
theorem zfi{P:Prop}(h:P:=by first|(simp;done)|(simp;omega)):P:=h
theorem Qb{P:Prop}(h:P:=by simpa using h1):P:=h
theorem Qz{P:Prop}(h:P:=by simpa using h2):P:=h
theorem Ue{P:Prop}(h:P:=by assumption):P:=h
theorem zq1{P:Prop}(h:P:=by unfold uX;rw[zgY HC.o (by rw[hl.o];exact aZ _)];rfl):P:=h
theorem Nc{P:Prop}(h:P:=by rw[bD]):P:=h
theorem X9{P:Prop}(h:P:=by rw[eK];simp):P:=h
theorem zfF{P:Prop}(h:P:=by have:=t.size;omega):P:=h
theorem zrZ{P:Prop}(h:P:=by first|(simp[K9];done)|(simp[K9];omega)):P:=h
theorem zge{P:Prop}(h:P:=by simpa using zr4.o):P:=h
theorem zlo{P:Prop}(h:P:=by first|exact kV|exact bM):P:=h
theorem zhL{P:Prop}(h:P:=by first|exact bM|exact kV):P:=h
theorem zgK{P:Prop}(h:P:=by simpa using hb):P:=h
theorem zuK{P:Prop}(h:P:=by simpa using hF 0 _ rfl hf.1 hf.2):P:=h
theorem zfg{P:Prop}(h:P:=by simpa using h):P:=h
theorem ziT{P:Prop}(h:P:=by show y≠gb;omega):P:=h
end Go
namespace Go
def aU{α:Sort _}(a:α):∃y,y=a:=⟨_,rfl⟩
def zso{p:Nat->Prop}(k:∀i,p i):p 0/\p 1/\p 2:=⟨k 0,k 1,k 2⟩
def eF{p:Nat->Prop}(k:∀i,p i):p 0/\p 1/\p 2/\p 3/\p 4/\p 5/\p 6/\p 7:=⟨k 0,k 1,k 2,k 3,k 4,k 5,k 6,k 7⟩
end Go
namespace Go.Proofs.YtfcjiloojkjaeaaDoor
open Go.Joins Go.ChangeShapes Go.WideShapes Go.RowKit Go.Deep
def own:ownKnob aK.godebug=none:=aS
def ziJ:laidOutB aK=true:=aS
end Go.Proofs.YtfcjiloojkjaeaaDoor
namespace Go.Proofs.YtfcjiloojkjaeaaDoor
open Go.RowKit
def inB (n lo hi:Int):Bool:=decide (lo<=n/\n<=hi)
theorem Kj {a b:Bool}(h:a=b):Ud (.bool a)=.returned (.bool b):=by rw[h]
theorem Ba {k:E8}{a b:Int}(h:a=b):Ud (.int k a)=.returned (.int k b):=by rw[h]
variable {W:aE}{N:Nat}{o:sY}
theorem kU (hN:W.heap[N]? =some o):N<W.heap.size:=by
 rcases nM N W.heap.size with h|h
 .exact h
 .rw[G4 h] at hN;cases hN
variable {w1:aE}
def iS (hb:bU W.heap.size W w1)(hN:W.heap[N]? =some o):w1.heap[N]? =some o/\N<w1.heap.size:=
 ⟨(hb.block N (kU hN)).trans hN,lA (kU hN) hb.size⟩
def dF (hN:W.heap[N]? =some o)(o':sY):(W.alloc o').heap[N]? =some o:=(tL W o' N (kU hN)).trans hN
variable {w:aE}
def Xm (h:bU w.heap.size w W)(hb:bU W.heap.size W w1):bU w.heap.size w w1:=h.trans (hb.mono h.size)
def dO (h:bU w.heap.size w W)(o:sY):bU w.heap.size w (W.alloc o):=h.alloc h.size o
variable {cs:Array aF}{T:aM}{fz:Nat×Nat}
def aJ (h:w.heap[N]? =some (.cells cs T fz))(o:Nat):w.cell? ⟨N,o,none⟩=cs[o]? :=cell_of_row w N o cs T fz h
theorem zoU (n lo hi:Int)(w:aE):
 iE aK 27 #[.int .i64 n,.int .i64 lo,.int .i64 hi] w λe w'=>e=.returned (.bool (inB n lo hi))/\w'=w:=by
 go_enter Tryd.func27,Tryd.ntmps27
 go_wp2
 all_goals go_ret
 all_goals exact⟨Kj (by simp[inB];omega),rfl⟩
structure cG (w:aE)(lo hi s:Nat)(A:Option bO)(n c:Nat)(xs:List aF):Prop where
 len:xs.length=n*s
 le:n<=c
 cap:c<=maxLen
 at_:0<n->∃b off,A=some ⟨b,off,none⟩/\lo<=b/\b<hi/\b<w.heap.size/\∀j v,xs[j]? =some v->w.cell? ⟨b,off+j,none⟩=some v
variable {w':aE}{lo hi s n c:Nat}{A:Option bO}{xs:List aF}
theorem cG.keep (h:cG w lo hi s A n c xs)(hs:w.heap.size<=w'.heap.size)(k:∀b,lo<=b->b<hi->b<w.heap.size->w'.heap[b]? =w.heap[b]?):cG w' lo hi s A n c xs:=
 ⟨h.len,h.le,h.cap,λhn=>by
  obtain⟨b,off,e,h1,h2,h3,h4⟩:=h.at_ hn;exact⟨b,off,e,h1,h2,lA h3 hs,λj v hv=>(Co (k b h1 h2 h3)).trans (h4 j v hv)⟩⟩
def cG.below (h:cG w lo hi s A n c xs)(hb:bU w.heap.size w w'):cG w' lo hi s A n c xs:=
 h.keep hb.size λb _ _ h3=>hb.block b h3
def cG.alloc (h:cG w lo hi s A n c xs)(o:sY):cG (w.alloc o) lo hi s A n c xs:=
 h.keep aQ λb _ _ h3=>tL w o b h3
theorem cG.wide {y4 iY:Nat}(h:cG w lo hi s A n c xs)(h1:y4<=lo)(h2:hi<=iY):cG w y4 iY s A n c xs:=
 ⟨h.len,h.le,h.cap,λhn=>by obtain⟨b,off,e,k1,k2,k3,k4⟩:=h.at_ hn;exact⟨b,off,e,aD,aD,k3,k4⟩⟩
def jN (xs:List Int):List Value:=xs.map (aF.int .i64)
variable {k:Nat}{xs:List Int}
theorem zyz (h:k<xs.length):(jN xs)[k]? =some (.int .i64 xs[k]):=by simp[jN,h]
theorem cG.cellAt (h:cG w lo hi 1 A n c (jN xs))(hk:k<n):∃b off v,A=some ⟨b,off,none⟩/\lo<=b/\b<hi/\b<w.heap.size/\xs[k]? =some v/\w.cell? ⟨b,off+k,none⟩=some (.int .i64 v):=by
 obtain⟨b,off,e,h1,h2,h3,h4⟩:=h.at_ aD;have hl:k<xs.length:=by have:=h.len;simp[jN] at this;omega
 exact⟨b,off,xs[k],e,h1,h2,h3,lP hl,h4 k _ (zyz hl)⟩
theorem cG.length (h:cG w lo hi 1 A n c (jN xs)):xs.length=n:=by have:=h.len;simp[jN] at this;exact this
def zoN:(aK.info? 3).map (λi=>(i.zero,i.size,i.bytes))=some (some (.int .i64 0),1,8):=aS
theorem eL (h:w.heap[N]? =some (.cells cs T))(o:Nat):w.frozen? ⟨N,o,none⟩=false:=by simp[To,h]
theorem oZ {g i:Nat}(h:w.heap[g]? =some (.cells cs T fz))(v:aF):(w.setCell ⟨g,i,none⟩ v).heap[g]? =some (.cells (cs.setIfInBounds i v) T fz):=by
 simp[zi2,zj5,h]
structure Kt (lo hi:Nat)(w w':aE):Prop where
 os:w'.os=w.os
 tape:w'.tape=w.tape
 output:w'.output=w.output
 size:w.heap.size<=w'.heap.size
 block:∀i,i<w.heap.size->¬(lo<=i/\i<hi)->w'.heap[i]? =w.heap[i]?
def Kt.refl (lo hi:Nat)(w:aE):Kt lo hi w w:=⟨rfl,rfl,rfl,aZ _,λ_ _ _=>rfl⟩
variable {a:aE}
theorem Kt.setCell {b:aE}(h:Kt lo hi a b){p:bO}(h1:lo<=p.block)(h2:p.block<hi)(v:aF):Kt lo hi a (b.setCell p v):=
 ⟨h.os,h.tape,h.output,by simpa[zi2] using h.size,λi hi aT=>(dZ b p v i aD).trans (h.block i hi aT)⟩
def Kt.drewN {b:aE}(h:Kt lo hi a b)(n:Nat):Kt lo hi a (b.drewN n):=⟨h.os,h.tape,h.output,h.size,h.block⟩
structure Own (w:aE)(lo hi:Nat)(A:Option bO)(n c:Nat)(xs:List Int):Prop where
 slc:cG w lo hi 1 A n c (jN xs)
 blk:0<n->∃b cs,A=some ⟨b,0,none⟩/\w.heap[b]? =some (.cells cs 3)/\n<=cs.size
structure z8 (E s:Nat)(w:aE)(lo hi:Nat)(A:Option bO)(n c:Nat)(xs:List aF):Prop where
 slc:cG w lo hi s A n c xs
 blk:0<n->∃b cs,A=some ⟨b,0,none⟩/\w.heap[b]? =some (.cells cs E)/\n*s<=cs.size
section
variable {E s:Nat}{w w':aE}{lo hi n c:Nat}{A:Option bO}{xs:List aF}
theorem z8.keep (h:z8 E s w lo hi A n c xs)(hs:w.heap.size<=w'.heap.size)(k:∀b,lo<=b->b<hi->b<w.heap.size->w'.heap[b]? =w.heap[b]?):z8 E s w' lo hi A n c xs:=
 ⟨h.slc.keep hs k,λhn=>by
  obtain⟨b,cs,e,hb,hc⟩:=h.blk hn;obtain⟨b',off,e',h1,h2,h3,_⟩:=h.slc.at_ hn;rw[e] at e';injection e' with e';injection e' with e1 e2 e3;subst e1;exact⟨b,cs,e,(k b h1 h2 h3).trans hb,hc⟩⟩
def z8.below (h:z8 E s w lo hi A n c xs)(k:bU w.heap.size w w'):z8 E s w' lo hi A n c xs:=h.keep k.size λb _ _ h3=>k.block b h3
theorem zvy {base:Nat}{v:aF}(h:w.ownsRow base E s v n xs)(hs:0<s):∃A c,v=.slice A n c/\z8 E s w base w.heap.size A n c xs:=by
 obtain⟨hl,h|⟨g,cap,cur,rfl,hb,hg,hn,hc,cH,ht⟩⟩:=h
 .obtain⟨rfl,rfl⟩:=h
  exact⟨none,0,rfl,⟨⟨hl,aZ _,lB _,λh=>absurd h aD⟩,λh=>absurd h aD⟩⟩
 .refine⟨_,cap,rfl,⟨⟨hl,hn,hc,λh0=>⟨g,0,rfl,hb,kU hg,kU hg,λj v hv=>?_⟩⟩,λh0=>⟨g,cur,rfl,hg,by rw[cH];exact zT _ hn⟩⟩⟩
  rw[rL,aJ hg];rw[<-ht] at hv;have hj:j<n*s:=by
   rcases nM j (n*s) with h|h
   .exact h
   .rw[Gk (by rw[rJ];omega)] at hv;cases hv
  rw[List.getElem?_take_of_lt hj] at hv;simpa using hv
theorem cG.cells (h:cG w lo hi s A n c xs){k:Nat}(hk:k<n):∃b off,A=some ⟨b,off,none⟩/\lo<=b/\b<hi/\b<w.heap.size/\∀f v,xs[k*s+f]? =some v->w.cell? ⟨b,off+(k*s+f),none⟩=some v:=by
 obtain⟨b,off,e,h1,h2,h3,h4⟩:=h.at_ aD;exact⟨b,off,e,h1,h2,h3,λf v hv=>h4 _ v hv⟩
end
variable {xs:List aF}{E:Nat}
theorem zHg {m:Nat}(hb:w'.heap[w.heap.size]? =some (.cells cs E))(hz:w.heap.size<w'.heap.size)(hn:cs.size=m*s)(hm:n<=m)(znq:m<=maxLen)(hx:xs.length=n*s)
 (hc:∀j,j<n*s->cs[j]? =xs[j]?):z8 E s w' w.heap.size w'.heap.size (some ⟨w.heap.size,0,none⟩) n m xs:=
 ⟨⟨
  hx,hm,znq,λh0=>⟨_,0,rfl,aZ _,hz,hz,λj v hv=>by
  have hj:j<n*s:=by
   rcases nM j (n*s) with h|h
   .exact h
   .rw[Gk aD] at hv;cases hv
  rw[rL,aJ hb,hc j hj,hv]⟩⟩,λ_=>⟨_,cs,rfl,hb,by rw[hn];exact zT _ hm⟩⟩
theorem str_eq {s s':ByteArray}(h:(s.toList==s'.toList)=true):s=s':=by
 rw[beq_iff_eq,ztt,ztt] at h;exact ByteArray.ext (Array.toList_inj.1 h)
variable {α:Type}
theorem H4 (f:α->List aF)(hf:∀a,(f a).length=s):∀(l:List α) (k i:Nat),i<s->(l.flatMap f)[k*s+i]? =(l[k]?).bind λa=>(f a)[i]?
 |[],k,i,_=>by simp
 |a::l,0,i,hi=>by
  rw[zaw,zaS,rL,List.getElem?_append_left (by rw[hf];exact hi)];rfl
 |a::l,k+1,i,hi=>by
  rw[zaw,List.getElem?_append_right (by rw[hf,zmy];omega),hf,show(k+1)*s+i-s=k*s+i by rw[zmy];omega,H4 f hf l k i hi];rfl
theorem Er (f:α->List aF)(hf:∀a,(f a).length=s)(l:List α):(l.flatMap f).length=l.length*s:=by
 induction l with
 |nil=>simp
 |cons a l ih=>rw[zaw,gJ,ih,hf,pG,zmy];omega
variable {v:aF}
theorem zvD {W':aE}{base n:Nat}{w0:aE}(h:w0.ownsRow base E s v n xs)(g:W.grownBy W' v.ownBlock)(hb:base<=W.heap.size):bU base W W':=
 ⟨g.os,g.tape,g.output,g.size,λi hi=>g.block i aD (by
  obtain⟨_,h|⟨b,cap,cur,rfl,h1,_⟩⟩:=h
  .rw[h.1];simp[K9]
  .simp[K9];omega)⟩
theorem zmM {base n:Nat}(h:w.ownsRow base E s v n xs)(hv:¬v=.slice none 0 0):∃g c,v=.slice (some ⟨g,0,none⟩) n c:=by
 obtain⟨_,h|⟨b,cap,cur,rfl,h1,_⟩⟩:=h
 .exact absurd h.1 hv
 .exact⟨b,cap,rfl⟩
def Oh {base g:Nat}(hb:base<=g)(hg:w.heap[g]? =some (.cells #[] E)):w.ownsRow base E s (.slice (some ⟨g,0,none⟩) 0 0) 0 []:=
 ⟨aQ,.inr ⟨g,0,#[],rfl,hb,hg,aZ _,lB _,aQ,aQ⟩⟩
theorem Af {base n:Nat}(h:w.ownsRow base E s v n xs)(hb:∀b,b<w.heap.size->w'.heap[b]? =w.heap[b]?):w'.ownsRow base E s v n xs:=by
 obtain⟨hl,h|⟨g,cap,cur,rfl,h1,hg,h2⟩⟩:=h
 .exact⟨hl,.inl h⟩
 .exact⟨hl,.inr ⟨g,cap,cur,rfl,h1,(hb g (kU hg)).trans hg,h2⟩⟩
def zta {base n:Nat}(h:w.ownsRow base E s v n xs)(hb:bU w.heap.size w w'):w'.ownsRow base E s v n xs:=Af h λb h=>hb.block b h
def Kl (h:w.heap[N]? =some o):w.drew.heap[N]? =some o:=h
def zbw {B:Nat}(h:bU B a w):bU B a w.drew:=⟨h.os,h.tape,h.output,h.size,h.block⟩
theorem mX (w:aE)(o:sY){b:Nat}(hb:b=w.heap.size):(w.alloc o).heap[b]? =some o:=by subst hb;exact lO w o
section
variable {P:bS}(w:aE)
theorem zm3 (t ty:aM)(base:Nat)(e:aM)(i:wI)(z:aF)(size bytes:Nat)(ht:P.underlying t=some (.slice e))(hi:P.info? e=some i)(hz:i.zero=some z)
 (wP:i.size=size) (uA:i.bytes=bytes) (hzs:z.cells.size=size) (cH:0<size)
 (v:aF) (n:Nat) (xs:List aF) (cP:w.ownsRow base e size v n xs) (hv:¬v=.slice none 0 0)
 (ad:bO) (m c:Nat) (news:List aF) (hl:news.length=m*size) (Eg:∀j u,news[j]? =some u->w.cell? (ad.add j)=some u) (h1:∀u∈news,u.oneCell'=true)
 (wV:n+m<=maxLen) (wW:(n+m)*bytes<=140737488355328) (qZ:base<=w.heap.size):
 ∃g cap w',(wG #[t,t] ty #[v,.slice (some ad) m c]).run P w=.ok (.slice (some ⟨g,0,none⟩) (n+m) cap) w'/\
  w'.ownsRow base e size (.slice (some ⟨g,0,none⟩) (n+m) cap) (n+m) (xs++news)/\w.grownBy w' v.ownBlock/\bU base w w':=by
 obtain⟨v',w',hr,h2,h3,h4,h5⟩:=zuQ (P:=P) w base t ty e i z size bytes ht hi hz wP uA hzs cH v n xs cP ad m c news hl Eg h1 wV wW qZ;obtain⟨g,cap,rfl⟩:=zmM h2 (λh=>hv (h4.1 h).1);exact⟨g,cap,w',hr,h2,h3,zvD cP h3 qZ⟩
variable {o:aY}{a:Act}
theorem zvb {K:Act->aE->Prop}{Q:Exit->Act->aE->Prop}(s x:cM)(t:aM)
 (ho:o.op=.call {callee:=.builtin .append,args:=#[s,x],argTypes:=#[t,t]})
 (base:Nat) (e:aM) (i:wI) (z:aF) (size bytes:Nat) (ht:P.underlying t=some (.slice e)) (hi:P.info? e=some i) (hz:i.zero=some z)
 (wP:i.size=size) (uA:i.bytes=bytes) (hzs:z.cells.size=size) (cH:0<size)
 (v:aF) (n:Nat) (xs:List aF) (hs:a.eval s=v) (cP:w.ownsRow base e size v n xs) (hv:¬v=.slice none 0 0)
 (ad:bO) (m c:Nat) (news:List aF) (hx:a.eval x=.slice (some ad) m c) (hl:news.length=m*size) (Eg:∀j u,news[j]? =some u->w.cell? (ad.add j)=some u) (h1:∀u∈news,u.oneCell'=true)
 (wV:n+m<=maxLen) (wW:(n+m)*bytes<=140737488355328) (qZ:base<=w.heap.size)
 (h:∀g cap w',w'.ownsRow base e size (.slice (some ⟨g,0,none⟩) (n+m) cap) (n+m) (xs++news)->w.grownBy w' v.ownBlock->bU base w w'->K (a.put o.dst (.slice (some ⟨g,0,none⟩) (n+m) cap)) w'):o.wp P a w K Q:=by
 obtain⟨g,cap,w',hr,h2,h3,h4⟩:=zm3 (P:=P) w t o.type base e i z size bytes ht hi hz wP uA hzs cH v n xs cP hv ad m c news hl Eg h1 wV wW qZ;unfold Ay execOp;simp only[ho,resolve,invoke,builtin,D5,Ib,D8,uG,fG,tH,hs,hx,hr];exact h g cap w' h2 h3 h4
variable {ops:Array aY}
def zwm {rest:List aY}{Q:Exit->Act->aE->Prop}(Dn:o.guard=none)(s x:cM)(t:aM)
 (ho:o.op=.call {callee:=.builtin .append,args:=#[s,x],argTypes:=#[t,t]})
 (base:Nat) (e:aM) (i:wI) (z:aF) (size bytes:Nat) (ht:P.underlying t=some (.slice e)) (hi:P.info? e=some i) (hz:i.zero=some z)
 (wP:i.size=size) (uA:i.bytes=bytes) (hzs:z.cells.size=size) (cH:0<size)
 (v:aF) (n:Nat) (xs:List aF) (hs:a.eval s=v) (cP:w.ownsRow base e size v n xs) (hv:¬v=.slice none 0 0)
 (ad:bO) (m c:Nat) (news:List aF) (hx:a.eval x=.slice (some ad) m c) (hl:news.length=m*size) (Eg:∀j u,news[j]? =some u->w.cell? (ad.add j)=some u) (h1:∀u∈news,u.oneCell'=true)
 (wV:n+m<=maxLen) (wW:(n+m)*bytes<=140737488355328) (qZ:base<=w.heap.size)
 (h:∀g cap w',w'.ownsRow base e size (.slice (some ⟨g,0,none⟩) (n+m) cap) (n+m) (xs++news)->w.grownBy w' v.ownBlock->bU base w w'->wpList P ops Q rest (a.put o.dst (.slice (some ⟨g,0,none⟩) (n+m) cap)) w'):wpList P ops Q (o::rest) a w:=
 wpList_plain Dn λ_ hK=>zvb w s x t ho base e i z size bytes ht hi hz wP uA hzs cH v n xs hs cP hv ad m c news hx hl Eg h1 wV wW qZ λg cap w' h2 h3 h4=>hK _ _ (h g cap w' h2 h3 h4)
theorem zqY {K:Act->aE->Prop}{Q:Exit->Act->aE->Prop}{EE:Prop}(Dn:o.guard=none)(s x:cM)(t:aM)
 (ho:o.op=.call {callee:=.builtin .append,args:=#[s,x],argTypes:=#[t,t]})
 (base:Nat) (e:aM) (i:wI) (z:aF) (size bytes:Nat) (ht:P.underlying t=some (.slice e)) (hi:P.info? e=some i) (hz:i.zero=some z)
 (wP:i.size=size) (uA:i.bytes=bytes) (hzs:z.cells.size=size) (cH:0<size)
 (v:aF) (n:Nat) (xs:List aF) (hs:a.eval s=v) (cP:w.ownsRow base e size v n xs) (hv:¬v=.slice none 0 0)
 (ad:bO) (m c:Nat) (news:List aF) (hx:a.eval x=.slice (some ad) m c) (hl:news.length=m*size) (Eg:∀j u,news[j]? =some u->w.cell? (ad.add j)=some u) (h1:∀u∈news,u.oneCell'=true)
 (wV:n+m<=maxLen) (wW:(n+m)*bytes<=140737488355328) (qZ:base<=w.heap.size)
 (h:∀g cap w',w'.ownsRow base e size (.slice (some ⟨g,0,none⟩) (n+m) cap) (n+m) (xs++news)->w.grownBy w' v.ownBlock->bU base w w'->K (a.put o.dst (.slice (some ⟨g,0,none⟩) (n+m) cap)) w'):
 if dA o (dN ops a.tmps)=true then Ay P o a w K Q else EE:=by
 have hw:dA o (dN ops a.tmps)=true:=by simp[dA,Dn]
 rw[if_pos hw];exact zvb w s x t ho base e i z size bytes ht hi hz wP uA hzs cH v n xs hs cP hv ad m c news hx hl Eg h1 wV wW qZ h
end
theorem zsg (xs:List Int):∀u∈jN xs,u.oneCell'=true:=by
 intro u hu;obtain⟨x,_,rfl⟩:=Hv.1 hu;rfl
theorem zQ {base n c:Nat}(h:w.ownsRow base E s (.slice A n c) n xs)(hs:0<s):cG w base w.heap.size s A n c xs:=by
 obtain⟨A',c',e,o⟩:=zvy h hs;injection e with e1 e2 e3;subst e1 e3;exact o.slc
theorem Nf (a b:Array UInt8):(⟨a⟩:ByteArray)++⟨b⟩=⟨a++b⟩:=by
 apply ByteArray.ext;simp[ByteArray.data_append]
theorem Qv (hk:k<=100000000):(Us k).length<=20:=by
 rw[Lib.decDigits_length];exact Lib.nDigits_le20 k aD
theorem cv1 (w:aE)(x:Nat)(hx:x<=255):(convert 119 9 (.slice (some ⟨w.heap.size,0,none⟩) 1 1)).run aK (w.alloc (.cells #[.int .u8 (x:Int)] 5))=.ok (.string ⟨[zb6 x].toArray⟩) (w.alloc (.cells #[.int .u8 (x:Int)] 5)):=
 run_convert_bytes_back (P:=aK) _ 119 9 5 ⟨w.heap.size,0,none⟩ 1 [zb6 x] Tryd.underlying119 Tryd.underlying5 Tryd.underlying9 (λj hj=>by
  obtain rfl:j=0:=by simp at hj;omega
  simp[zdT];omega)
end Go.Proofs.YtfcjiloojkjaeaaDoor
namespace Go.Proofs.YtfcjiloojkjaeaaDoor
open Go.Joins Go.ChangeShapes Go.WideShapes Go.RowKit Go.Deep
section
variable {H:Type}{enc:aM×aF->H}{P:bS}{w:aE}{base:Nat}{held:Bool}
theorem add_plain (b off j:Nat):(bO.mk b off none).add j=⟨b,off+j,none⟩:=by unfold zdT;split<;>simp_all
end
end Go.Proofs.YtfcjiloojkjaeaaDoor
namespace Go.Proofs.YtfcjiloojkjaeaaDoor
open Go.RowKit
structure bR where
 c:Int
 l:Int
 o:Int
 f:Int
 h:Int
 t:Int
 e:ByteArray
 deriving DecidableEq
def bR.cells (d:bR):List Value:=[.int .i64 d.c,.int .i64 d.l,.int .i64 d.o,.int .i64 d.f,.int .i64 d.h,.int .i64 d.t,.string d.e]
def recs (ds:List bR):List Value:=ds.flatMap bR.cells
def znG (ds:List bR):(recs ds).length=ds.length*7:=Er bR.cells (s:=7) (λ_=>rfl) ds
variable {ds:List bR}{k:Nat}
theorem zHj {d:bR}(h:ds[k]? =some d):(recs ds)[k*7+0]? =some (.int .i64 d.c)/\(recs ds)[k*7+1]? =some (.int .i64 d.l)/\(recs ds)[k*7+2]? =some (.int .i64 d.o)/\(recs ds)[k*7+3]? =some (.int .i64 d.f)/\(recs ds)[k*7+4]? =some (.int .i64 d.h)/\(recs ds)[k*7+5]? =some (.int .i64 d.t)/\(recs ds)[k*7+6]? =some (.string d.e):=by
 have e:=λi hi=>H4 bR.cells (s:=7) (λ_=>rfl) ds k i hi;unfold recs;rw[e 0 aD,e 1 aD,e 2 aD,e 3 aD,e 4 aD,e 5 aD,e 6 aD,h];exact⟨rfl,rfl,rfl,rfl,rfl,rfl,rfl⟩
variable {w:aE}{lo hi n c:Nat}{A:Option bO}
theorem cG.recLen (h:cG w lo hi 7 A n c (recs ds)):ds.length=n:=by
 have:=h.len;rw[znG] at this;omega
structure RecAt (w:aE)(b off:Nat)(d:bR):Prop where
 c0:w.cell? ⟨b,off,none⟩=some (.int .i64 d.c)
 c1:w.cell? ⟨b,off+1,none⟩=some (.int .i64 d.l)
 c2:w.cell? ⟨b,off+2,none⟩=some (.int .i64 d.o)
 c3:w.cell? ⟨b,off+3,none⟩=some (.int .i64 d.f)
 c4:w.cell? ⟨b,off+4,none⟩=some (.int .i64 d.h)
 c5:w.cell? ⟨b,off+5,none⟩=some (.int .i64 d.t)
 c6:w.cell? ⟨b,off+6,none⟩=some (.string d.e)
theorem cG.recAt (h:cG w lo hi 7 A n c (recs ds))(hk:k<n):
 ∃b off d,A=some ⟨b,off,none⟩/\lo<=b/\b<hi/\b<w.heap.size/\ds[k]? =some d/\RecAt w b (off+k*7) d:=by
 obtain⟨b,off,e,h1,h2,h3,h4⟩:=h.cells hk;have hl:k<ds.length:=by rw[h.recLen];exact hk
 obtain⟨g0,g1,g2,g3,g4,g5,g6⟩:=zHj (lP hl);exact⟨b,off,ds[k],e,h1,h2,h3,lP hl,⟨h4 0 _ g0,h4 1 _ g1,h4 2 _ g2,h4 3 _ g3,h4 4 _ g4,h4 5 _ g5,h4 6 _ g6⟩⟩
def recP (c l o f h t:Int)(e:List UInt8):Prop:=
 1<=c/\c<=99/\1<=l/\l<=6/\0<=o/\o<=4/\0<=f/\f<=3600/\
  (
   (e=[111,112,101,110]/\t= -1/\((o=0/\h= -1)\/(o≠0/\f<=h/\h<=3600)))\/
   (e=[100,111,110,101]/\o≠0/\f<=h/\h<=t/\t<=3600)\/
   ((e=[108,101,102,116]\/e=[116,105,114,101,100])/\o=0/\h= -1/\f<=t/\t<=3600))
instance (c l o f h t:Int)(e:List UInt8):Decidable (recP c l o f h t e):=by unfold recP;infer_instance
def recB (c l o f h t:Int)(e:List UInt8):Bool:=decide (recP c l o f h t e)
def zrJ (o f h t:Int)(e:List UInt8):Prop:=
 (e=[100,111,110,101]/\0<o/\f<=h/\h<=t/\t<=3600/\f<=t)\/
  ((e=[108,101,102,116]\/e=[116,105,114,101,100])/\o=0/\h= -1/\f<=t/\t<=3600)
instance (o f h t:Int)(e:List UInt8):Decidable (zrJ o f h t e):=by unfold zrJ;infer_instance
theorem cG.rec7 (h:cG w lo hi 7 A n c (recs ds))(hk:k<n):
 ∃b off d,A=some ⟨b,off,none⟩/\lo<=b/\b<hi/\b<w.heap.size/\ds[k]? =some d/\w.cell? ⟨b,off+k*7,none⟩=some (.int .i64 d.c)/\w.cell? ⟨b,off+k*7+1,none⟩=some (.int .i64 d.l)/\w.cell? ⟨b,off+k*7+2,none⟩=some (.int .i64 d.o)/\w.cell? ⟨b,off+k*7+3,none⟩=some (.int .i64 d.f)/\w.cell? ⟨b,off+k*7+4,none⟩=some (.int .i64 d.h)/\w.cell? ⟨b,off+k*7+5,none⟩=some (.int .i64 d.t)/\w.cell? ⟨b,off+k*7+6,none⟩=some (.string d.e):=by
 obtain⟨b,off,d,e,h1,h2,h3,hd,⟨c0,c1,c2,c3,c4,c5,c6⟩⟩:=h.recAt hk;exact⟨b,off,d,e,h1,h2,h3,hd,c0,c1,c2,c3,c4,c5,c6⟩
def zuh:(aK.info? 107).map (λi=>(i.zero,i.size,i.bytes))=some (some (.agg #[.int .i64 0,.int .i64 0,.int .i64 0,.int .i64 0,.int .i64 0,.int .i64 0,.string ⟨#[]⟩]),7,64):=aS
variable {α:Type}
theorem zDe {l:List α}{a:α}(h:l[k]? =some a):l.drop k=a::l.drop (k+1):=by
 obtain⟨hk,e⟩:=jW.1 h;rw[List.drop_eq_getElem_cons hk,e]
theorem zGs {p:α->Bool}{l:List α}{a:α}(h:∀j,j<k->∀b,l[j]? =some b->p b=true)(hk:l[k]? =some a)(ha:p a=true):∀j,j<k+1->∀b,l[j]? =some b->p b=true:=by
 intro j hj b hb;by_cases e:j=k
 .subst e;rw[hk] at hb;injection hb with hb;subst hb;exact ha
 .exact h j aD b hb
theorem zxX {p:α->Bool}{l:List α}(h:∀j,j<k->∀b,l[j]? =some b->p b=true)(hk:l.length<=k):l.all p=true:=by
 rw[List.all_eq_true];intro a ha;obtain⟨j,hj,e⟩:=Kh.1 ha;exact h j aD a (by rw[lP hj,e])
theorem zxQ {p:α->Bool}{l:List α}{a:α}(hk:l[k]? =some a)(ha:p a=false):l.all p=false:=by
 rw[List.all_eq_false];exact⟨a,dS hk,by simp[ha]⟩
structure bJ where
 c:Int
 p:Int
 deriving DecidableEq
def bJ.cells (x:bJ):List Value:=[.int .i64 x.c,.int .i64 x.p]
def bF (xs:List bJ):List Value:=xs.flatMap bJ.cells
structure jE where
 ln:Int
 op:Int
 pt:Int
 deriving DecidableEq
structure dG where
 k:ByteArray
 a:Int
 b:Int
 deriving DecidableEq
def dG.cells (x:dG):List Value:=[.string x.k,.int .i64 x.a,.int .i64 x.b]
def lW (xs:List dG):List Value:=xs.flatMap dG.cells
def eA (d:bR):Bool:=d.e.toList==[111,112,101,110]
def zU (c:Int)(d:bR):Bool:=d.c==c&&eA d
def jD (rs:List bR)(c:Int):Option Nat:=rs.findIdx? (zU c)
def Fj:Option Nat->Int
 |some i=>(i:Int)
 |none=>-1
def vQ (op:Int)(d:bR):Bool:=d.o==op&&eA d
def dJ (rs:List bR)(op:Int):Int:=match rs.find? (vQ op) with|some d=>d.c|none=>0
def qW (rs:List bR)(l:Int):Bool:=rs.any λd=>d.l==l&&eA d
def xR (rs:List bR)(n:Nat):List Int:=((gD n).map λi:Nat=>(i:Int)+1).filter λl=>!qW rs l
def n6 (o:jE)(rs:List bR):List Int:=xR rs o.ln.toNat
def uX (xs:List bJ)(c:Int):Option Nat:=xs.findIdx? λx=>x.c==c
def dQ (xs:List bJ)(c:Int):List bJ:=xs.filter λx=>x.c !=c
def sV (xs:List bJ)(c:bJ):List bJ:=xs.takeWhile (λx=>decide (c.p<=x.p))++c::xs.dropWhile (λx=>decide (c.p<=x.p))
structure b6 where
 o:jE
 clk:Int
 recs:List bR
 wait:List bJ
 back:List bJ
 log:List (List UInt8)
def Gv:ByteArray:=⟨#[100,111,110,101]⟩
def Bs:ByteArray:=⟨#[108,101,102,116]⟩
def Ea:ByteArray:=⟨#[116,105,114,101,100]⟩
def eJ:ByteArray:=⟨#[111,112,101,110]⟩
def Ke (b:b6)(i:Nat)(e:ByteArray):List bR:=b.recs.modify i λd=>{d with t:=b.clk,e:=e}
def Fu (rs:List bR)(i:Nat):Int:=match rs[i]? with|some d=>d.c|none=>0
def kT (b:b6)(i:Nat)(e:ByteArray):b6:={b with recs:=Ke b i e,wait:=dQ b.wait (Fu b.recs i)}
def jC (n:Int):List UInt8:=Ld n
def pL (b:b6)(c:bJ):b6×List UInt8:=
 if(jD b.recs c.c).isSome||(uX b.back c.c).isSome then(b,[107,110,111,119,110])
 else match n6 b.o b.recs with
  |[]=>({b with back:=b.back++[c]},[98,117,115,121])
  |l::_=>({b with recs:=b.recs++[⟨c.c,l,0,b.clk,-1,-1,eJ⟩],wait:=sV b.wait c},[108,105,110,101,32]++jC l)
def nG (b:b6)(op:Int):b6×List UInt8:=
 if 0<dJ b.recs op then(b,[116,97,108,107,115])
 else match b.wait with
  |[]=>(b,[110,111,110,101])
  |c::_=>match jD b.recs c.c with
   |none=>(b,[])
   |some i=>({b with recs:=b.recs.modify i λd=>{d with o:=op,h:=b.clk},wait:=dQ b.wait c.c},[99,97,108,108,32]++jC c.c)
def lV (b:b6)(op:Int):b6×List UInt8:=
 if 0<dJ b.recs op then(b,[116,97,108,107,115])
 else match b.back with
  |[]=>(b,[110,111,110,101])
  |c::_=>match n6 b.o b.recs with
   |[]=>(b,[98,117,115,121])
   |l::_=>({b with back:=dQ b.back c.c,recs:=b.recs++[⟨c.c,l,op,b.clk,b.clk,-1,eJ⟩]},[99,97,108,108,32]++jC c.c)
def opAt (rs:List bR)(i:Nat):Int:=match rs[i]? with|some d=>d.o|none=>0
def l7 (b:b6)(c:Int):b6×List UInt8:=
 match jD b.recs c with
 |some i=>if 0<opAt b.recs i then(kT b i Gv,[100,111,110,101]) else(kT b i Bs,[108,101,102,116])
 |none=>if(uX b.back c).isSome then({b with back:=dQ b.back c},[111,102,102]) else(b,[103,111,110,101])
def Vi (rs:List bR)(i:Nat):Int:=match rs[i]? with|some d=>d.f|none=>0
def lY (bt:b6×List UInt8)(x:bJ):b6×List UInt8:=
 match jD bt.1.recs x.c with
 |none=>bt
 |some i=>if bt.1.o.pt<=bt.1.clk-Vi bt.1.recs i then
  ({kT bt.1 i Ea with back:=bt.1.back++[x]},bt.2++[32]++jC x.c) else bt
def tT (b:b6)(m:Int):b6×List UInt8:=b.wait.foldl lY ({b with clk:=b.clk+m},[97,116,32]++jC (b.clk+m))
def H3:List UInt8:=[114,105,110,103]
def I6:List UInt8:=[104,97,110,103]
def Hs:List UInt8:=[97,110,115,119,101,114]
def He:List UInt8:=[114,101,116,117,114,110]
def zbX:List UInt8:=[119,97,105,116]
def eG (b:b6)(e:dG):b6×List UInt8:=
 if e.k.toList=H3 then pL b ⟨e.a,e.b⟩ else if e.k.toList=Hs then nG b e.a else if e.k.toList=He then lV b e.a else if e.k.toList=I6 then l7 b e.a else tT b e.a
def Jd (ops:Int)(e:dG):Prop:=
 (e.k.toList=H3/\1<=e.a/\e.a<=99/\0<=e.b/\e.b<=9)\/(e.k.toList=I6/\1<=e.a/\e.a<=99/\e.b=0)\/((e.k.toList=Hs\/e.k.toList=He)/\1<=e.a/\e.a<=ops/\e.b=0)\/(e.k.toList=zbX/\1<=e.a/\e.a<=60/\e.b=0)
instance (ops:Int)(e:dG):Decidable (Jd ops e):=by unfold Jd;infer_instance
def sK (ops:Int)(e:dG):Bool:=decide (Jd ops e)
def qY (o:jE):Bool:=decide (1<=o.ln/\o.ln<=6/\1<=o.op/\o.op<=4/\1<=o.pt/\o.pt<=60)
def jV (o:jE)(es:List dG):Bool:=qY o&&decide (es.length<=60)&&es.all (sK o.op)
def l6 (o:jE):b6:=⟨o,0,[],[],[],[]⟩
def Eb (bt:b6×List UInt8):b6:={bt.1 with log:=bt.1.log++[bt.2]}
def C3 (o:jE)(es:List dG):b6:=es.foldl (λb e=>Eb (eG b e)) (l6 o)
def Lq (o:jE)(es:List dG):b6:=if jV o es then C3 o es else l6 o
variable {ds:List dG}
theorem cG.eventsLen (h:cG w lo hi 3 A n c (lW ds)):ds.length=n:=by
 have h1:=h.len;have h2:=Er dG.cells (s:=3) (λ_=>rfl) ds;unfold lW at h1;omega
theorem cG.eventsAt (h:cG w lo hi 3 A n c (lW ds))(hk:k<n):
 ∃b off d,A=some ⟨b,off,none⟩/\lo<=b/\b<hi/\b<w.heap.size/\ds[k]? =some d/\w.cell? ⟨b,off+k*3,none⟩=some (.string d.k)/\w.cell? ⟨b,off+k*3+1,none⟩=some (.int .i64 d.a)/\w.cell? ⟨b,off+k*3+2,none⟩=some (.int .i64 d.b):=by
 have hl:=h.eventsLen;have hx:ds[k]? =some ds[k]:=lP aD;have g:∀i,i<3->(lW ds)[k*3+i]? =(ds[k].cells)[i]? :=λi hi=>by
  have:=H4 dG.cells (s:=3) (λ_=>rfl) ds k i hi;rw[hx] at this;exact this
 obtain⟨b,off,rfl,h1,h2,h3,h4⟩:=h.cells hk;exact⟨b,off,ds[k],rfl,h1,h2,h3,hx,h4 0 _ (g 0 aH),by rw[Xg];exact h4 1 _ (g 1 aH),by rw[Xg];exact h4 2 _ (g 2 aH)⟩
def zes (ds:List dG):(lW ds).length=ds.length*3:=Er dG.cells (s:=3) (λ_=>rfl) ds
variable {d:dG}
theorem zsB (h:ds[k]? =some d):(lW ds)[k*3+0]? =some (.string d.k)/\(lW ds)[k*3+1]? =some (.int .i64 d.a)/\(lW ds)[k*3+2]? =some (.int .i64 d.b):=by
 have e:=λi hi=>H4 dG.cells (s:=3) (λ_=>rfl) ds k i hi;unfold lW;rw[e 0 aD,e 1 aD,e 2 aD,h];exact⟨rfl,rfl,rfl⟩
theorem zIo {cs:Array aF}(h:ds[k]? =some d)(hs:k*3+3<=cs.size)(hc:∀j,j<k*3->cs[j]? =(lW ds)[j]?):
 ∀j,j<(k+1)*3->(((cs.setIfInBounds (k*3) (.string d.k)).setIfInBounds (k*3+1) (.int .i64 d.a)).setIfInBounds (k*3+2) (.int .i64 d.b))[j]? =(lW ds)[j]? :=by
 intro j hj;obtain⟨g0,g1,g2⟩:=zsB h;by_cases j2:j=k*3+2
 .subst j2;rw[Mb rF,g2]
 rw[jM aD];by_cases j1:j=k*3+1
 .subst j1;rw[Mb rF,g1]
 rw[jM aD];by_cases j0:j=k*3
 .subst j0;rw[Mb aD];exact g0.symm
 rw[jM aD];exact hc j aD
theorem cG.eventAt (h:cG w lo hi 3 A n c (lW ds))(hk:k<n):
 ∃b off d,A=some ⟨b,off,none⟩/\lo<=b/\b<hi/\b<w.heap.size/\ds[k]? =some d/\w.cell? ⟨b,off+k*3,none⟩=some (.string d.k)/\w.cell? ⟨b,off+k*3+1,none⟩=some (.int .i64 d.a)/\w.cell? ⟨b,off+k*3+2,none⟩=some (.int .i64 d.b):=by
 obtain⟨b,off,e,h1,h2,h3,h4⟩:=h.cells hk;have hl:k<ds.length:=by have:=h.len;rw[zes] at this;omega
 obtain⟨g0,g1,g2⟩:=zsB (lP hl);exact⟨b,off,ds[k],e,h1,h2,h3,lP hl,h4 0 _ g0,h4 1 _ g1,h4 2 _ g2⟩
theorem cG.eventLen (h:cG w lo hi 3 A n c (lW ds)):ds.length=n:=by
 have:=h.len;rw[zes] at this;omega
theorem zGl (d:dG)(w:aE):
 iE aK 12 #[.agg #[.string d.k,.int .i64 d.a,.int .i64 d.b]] w λe w'=>e=.returned (.agg #[.string d.k,.int .i64 d.a,.int .i64 d.b])/\bU w.heap.size w w':=by
 go_enter Tryd.func12,Tryd.ntmps12
 go_wp2;refine bodyPost_ret (v:=.agg #[.string d.k,.int .i64 d.a,.int .i64 d.b]) (by simp[results,Tryd.results12,go_sem]) rfl ⟨rfl,?_⟩;exact dO (dO (dO (eR _ _) _) _) _
def zB5:(aK.info? 43).map (λi=>(i.zero,i.size,i.bytes))=some (some (.agg #[.string ⟨#[]⟩,.int .i64 0,.int .i64 0]),3,32):=aS
theorem zDL (n:Nat)(hn:n<=1048576):∃cs:Array aF,cs.size=n*3/\∀w:aE,(zeT 29 (.int .i64 (n:Int)) (.int .i64 (n:Int))).run aK w=.ok (.slice (some ⟨w.heap.size,0,none⟩) n n) (w.alloc (.cells cs 43)):=by
 obtain⟨i,hi,hz,hs,hb⟩:=y3 zB5;refine⟨madeCells (Rh (.agg #[.string ⟨#[]⟩,.int .i64 0,.int .i64 0])) (n*3),size_madeCells _ _,λw=>?_⟩;have:=run_make (P:=aK) w 29 43 i _ Tryd.underlying29 hi hz .i64 .i64 n n aD (Int.le_refl _) (by rw[hb];omega) aD;rw[hs] at this;simpa using this
theorem zyW (d e:dG)(w:aE):
 iE aK 14 #[.agg #[.string d.k,.int .i64 d.a,.int .i64 d.b],.agg #[.string e.k,.int .i64 e.a,.int .i64 e.b]] w λx w'=>x=.returned (.bool (d==e))/\bU w.heap.size w w':=by
 obtain⟨s,x,y⟩:=d;obtain⟨s',x',y'⟩:=e
 go_enter Tryd.func14,Tryd.ntmps14
 go_wp2
 all_goals go_ret
 all_goals refine⟨Kj ?_,dO (dO (eR _ _) _) _⟩
 all_goals first
  |(symm;rw[beq_eq_false_iff_ne];intro h;injection h with h1 h2 h3;subst h1 h2 h3;simp_all;done)
  |(symm;rw[beq_iff_eq];obtain rfl:s=s':=str_eq (by simp_all);simp_all;done)
theorem zyH {W W':aE}{a0 a1 a2 b0 b1 b2:bO}{v0 v1 v2 u0 u1 u2:aF}(hb:bU W.heap.size W W')
 (h:W.cell? a0=some v0/\W.cell? a1=some v1/\W.cell? a2=some v2/\W.cell? b0=some u0/\W.cell? b1=some u1/\W.cell? b2=some u2/\bU w.heap.size w W):
 W'.cell? a0=some v0/\W'.cell? a1=some v1/\W'.cell? a2=some v2/\W'.cell? b0=some u0/\W'.cell? b1=some u1/\W'.cell? b2=some u2/\bU w.heap.size w W':=by
 have e:∀{a:bO} {v:aF},W.cell? a=some v->W'.cell? a=some v:=λ{a v} hv=>(Co (hb.block _ (zt6 W _ hv))).trans hv;exact⟨e h.1,e h.2.1,e h.2.2.1,e h.2.2.2.1,e h.2.2.2.2.1,e h.2.2.2.2.2.1,Xm h.2.2.2.2.2.2 hb⟩
def zGV {W:aE}{a0 a1 a2 b0 b1 b2:bO}{v0 v1 v2 u0 u1 u2:aF}
 (h:W.cell? a0=some v0/\W.cell? a1=some v1/\W.cell? a2=some v2/\W.cell? b0=some u0/\W.cell? b1=some u1/\W.cell? b2=some u2/\bU w.heap.size w W):
 W.drew.cell? a0=some v0/\W.drew.cell? a1=some v1/\W.drew.cell? a2=some v2/\W.drew.cell? b0=some u0/\W.drew.cell? b1=some u1/\W.drew.cell? b2=some u2/\bU w.heap.size w W.drew:=
 ⟨h.1,h.2.1,h.2.2.1,h.2.2.2.1,h.2.2.2.2.1,h.2.2.2.2.2.1,⟨h.2.2.2.2.2.2.os,h.2.2.2.2.2.2.tape,h.2.2.2.2.2.2.output,h.2.2.2.2.2.2.size,h.2.2.2.2.2.2.block⟩⟩
theorem zBV (lo hi n c y4 iY n' c':Nat)(A A':Option bO)(ds es:List dG)(w:aE)(h:cG w lo hi 3 A n c (lW ds))(h':cG w y4 iY 3 A' n' c' (lW es))(hn:n<=1048576)(vB:n'<=1048576):
 iE aK 9 #[.slice A n c,.slice A' n' c'] w λx w'=>x=.returned (.bool (ds==es))/\bU w.heap.size w w':=by
 have hl:=aC h.eventLen;have Ao:=aC h'.eventLen;by_cases aT:n=n'
 .subst aT
  go_enter znE,ztv
  go_wp2
  go_loopw [5] (λi wr=>∃k:Nat,k<=n/\i=.int .i64 k/\bU w.heap.size w wr/\∀j,j<k->ds[j]? =es[j]?) (λi _=>n-(intOf i).toNat)
  case atStart=>exact⟨0,lB _,rfl,eR _ _,λj hj=>absurd hj aD⟩
  case round=>
   obtain⟨k,hk,rfl,B,fP⟩:=hrel;have HC:=aC fP;clear fP;by_cases aP:k<n
   .obtain⟨b,off,d,hA,_,_,h3,eB,eM,mJ,sO⟩:=(h.below B).eventAt aP
    obtain⟨b',Um,e,zHW,_,_,zkk,E9,zdz,zxE,znn⟩:=(h'.below B).eventAt aP;subst hA zHW;have HX:=aC eB;have zqJ:=aC E9;have S0:=And.intro eM (And.intro mJ (And.intro sO (And.intro zdz (And.intro zxE (And.intro znn B)))));clear eB E9 h h' eM mJ sO zdz zxE znn h3 zkk B;have i0:(0:Int)<=(k:Int):=aD;have i1:(k:Int)<(n:Int):=aD;obtain⟨t,ht⟩:=aU ((d==e));have HT:=aC ht;clear ht
    go_wp2_with fail
    go_region_held3 (λW=>W.cell? ⟨b,off+k*3,none⟩=some (.string d.k)/\W.cell? ⟨b,off+k*3+1,none⟩=some (.int .i64 d.a)/\W.cell? ⟨b,off+k*3+2,none⟩=some (.int .i64 d.b)/\W.cell? ⟨b',Um+k*3,none⟩=some (.string e.k)/\W.cell? ⟨b',Um+k*3+1,none⟩=some (.int .i64 e.a)/\W.cell? ⟨b',Um+k*3+2,none⟩=some (.int .i64 e.b)/\bU w.heap.size w W)
     (first|exact zGV S0|exact zyH Ue Ue)
     (first|(go_at_call 14;refine(zyW d e _).mono ?_;rintro x w2 ⟨rfl,b2⟩;rw[<-HT.o]))
    have S2:bU w.heap.size w w2:=by
     have S1:w2.cell? ⟨b,off+k*3,none⟩=some (.string d.k)/\w2.cell? ⟨b,off+k*3+1,none⟩=some (.int .i64 d.a)/\w2.cell? ⟨b,off+k*3+2,none⟩=some (.int .i64 d.b)/\w2.cell? ⟨b',Um+k*3,none⟩=some (.string e.k)/\w2.cell? ⟨b',Um+k*3+1,none⟩=some (.int .i64 e.a)/\w2.cell? ⟨b',Um+k*3+2,none⟩=some (.int .i64 e.b)/\bU w.heap.size w w2:=by assumption
     exact S1.2.2.2.2.2.2
    clear S0;cases t
    .go_wp2
     go_ret;refine⟨Kj ?_,S2⟩;symm;rw[beq_eq_false_iff_ne];intro hh;subst hh;have:=HX.o.symm.trans zqJ.o;injection this with this;subst this;simpa using HT.o
    .go_wp2
     go_roundw
     case rel=>exact⟨k+1,aD,pT,S2,λj hj=>by
      by_cases e:j=k
      .subst e;rw[HX.o,zqJ.o,eq_of_beq HT.o.symm]
      .exact HC.o j aD⟩
     case measure=>simp[intOf];omega
   .have e:k=n:=aD
    subst e;clear h h';go_wp2;go_ret;exact⟨Kj (by
     symm;rw[beq_iff_eq];apply X5;intro j;rcases nM j k with hj|hj
     .exact HC.o j hj
     .rw[Gk (by rw[hl.o];exact hj),Gk (by rw[Ao.o];exact hj)]),B⟩
 .have hq:((n:Int) !=(n':Int))=true:=by rw[bne_iff_ne];omega
  clear h h';have HN:=aC aT;clear aT
  go_enter znE,ztv
  go_wp2;go_ret;exact⟨Kj (by symm;rw[beq_eq_false_iff_ne];intro e;exact HN.o (by rw[<-hl.o,<-Ao.o,e])),eR _ _⟩
def F0 (l:Int):List dG->Int
 |[]=>l
 |d::ds=>if l<d.k.size then-1 else F0 (l-d.k.size) ds
def Hj (l:Int)(n:Nat)(ds:List dG):Int:=if l<n then-1 else F0 (l-n) ds
theorem zFJ :∀{l:Int},0<=l->F0 l ds<=l:=by
 induction ds with
 |nil=>intro l h0;rw[F0];omega
 |cons d ds ih=>
  intro l h0;rw[F0];split
  .omega
  .have:=ih (l:=l-d.k.size) aD;omega
theorem zIs :∀{l:Int},0<=F0 l ds->l<=1048576->∀d∈ds,d.k.size<=1048576:=by
 induction ds with
 |nil=>intro l _ _ d hd;cases hd
 |cons q ds ih=>
  intro l h hl d hd;rw[F0] at h;split at h
  .omega
  .rcases iX.1 hd with e|hd
   .subst e;omega
   .exact ih h aD d hd
variable {l:Int}
theorem zyk (h:0<=Hj l n ds)(hl:l<=1048576):n<=1048576/\∀d∈ds,d.k.size<=1048576:=by
 unfold Hj at h;split at h
 .omega
 .exact⟨aD,zIs h aD⟩
theorem zGk (h:0<=l):Hj l n ds<=l:=by
 unfold Hj;split
 .omega
 .have:=zFJ (ds:=ds) (l:=l-n) aD;omega
theorem zo9 (d:dG)(l:Int)(w:aE)(h0:0<=l)(h1:l<=1048576)(hs:d.k.size<=maxLen):
 iE aK 10 #[.agg #[.string d.k,.int .i64 d.a,.int .i64 d.b],.int .i64 l] w λe w'=>e=.returned (.int .i64 (if l<d.k.size then-1 else l-d.k.size))/\bU w.heap.size w w':=by
 unfold maxLen at hs;by_cases hl:l<d.k.size
 .rw[if_pos hl]
  have hx:l-d.k.size<0:=aD
  go_enter zog,znT
  go_wp2;go_ret;exact⟨rfl,dO (eR _ _) _⟩
 .rw[if_neg hl]
  have hx:0<=l-d.k.size:=aD
  go_enter zog,znT
  go_wp2;go_ret;exact⟨rfl,dO (eR _ _) _⟩
theorem zy1 (lo hi n c:Nat)(A:Option bO)(ds:List dG)(l:Int)(w:aE)(h:cG w lo hi 3 A n c (lW ds))(hd:∀d∈ds,d.k.size<=maxLen)(h0:0<=l)(h1:l<=1048576):
 iE aK 4 #[.slice A n c,.int .i64 l] w λe w'=>e=.returned (.int .i64 (Hj l n ds))/\bU w.heap.size w w':=by
 have pY:=h.le;have nI:=h.cap;unfold maxLen at nI;by_cases hl:l<n
 .have hx:l-n<0:=aD
  have H:=aC (if_pos hl:Hj l n ds= -1);clear h
  go_enter zu0,zpX
  go_wp2;go_ret;exact⟨Ba H.o.symm,eR _ _⟩
 .have hx:0<=l-n:=aD
  have H:=aC (if_neg hl:Hj l n ds=F0 (l-n) ds);have HL:=aC h.eventLen;have HD:=aC hd;clear hd
  go_enter zu0,zpX
  go_wp2
  go_loopw [1,5] (λq i wr=>∃(k:Nat) (m:Int),k<=n/\q=.int .i64 m/\i=.int .i64 k/\0<=m/\m<=1048576/\F0 m (ds.drop k)=F0 (l-n) ds/\bU w.heap.size w wr) (λ_ i _=>n-(intOf i).toNat)
  case atStart=>exact⟨0,l-n,lB _,rfl,rfl,aD,aD,aQ,eR _ _⟩
  case round=>
   obtain⟨k,m,hk,rfl,rfl,m0,m1,hs,B⟩:=hrel;by_cases aP:k<n
   .obtain⟨b,off,d,rfl,_,_,h3,eB,eM,mJ,sO⟩:=(h.below B).eventAt aP
    rw[zDe eB,F0] at hs;have uL:=HD.o d (dS eB);clear h eB;by_cases hm:m<d.k.size
    .rw[if_pos hm] at hs
     have HS:=aC hs;clear hs
     go_wp2_with fail
     refine(zo9 d m _ m0 m1 uL).mono ?_;rintro e w1 ⟨rfl,b1⟩;rw[if_pos hm];have B1:=Xm B b1;clear eM mJ sO b1;go_wp2;go_ret;exact⟨Ba (HS.o.trans H.o.symm),B1⟩
    .rw[if_neg hm] at hs
     have HS:=aC hs;clear hs;have L4:0<=m-d.k.size:=aD
     go_wp2_with fail
     refine(zo9 d m _ m0 m1 uL).mono ?_;rintro e w1 ⟨rfl,b1⟩;rw[if_neg aD];have B1:=Xm B b1;clear eM mJ sO b1;go_wp2;go_roundw
     case rel=>exact⟨k+1,m-d.k.size,aD,rfl,pT,aD,aD,HS.o,B1⟩
     case measure=>simp[intOf];omega
   .have e:k=n:=aD
    subst e;rw[List.drop_of_length_le (by rw[HL.o];exact aZ _),F0] at hs;have HS:=aC hs;clear hs h;go_wp2;go_ret;exact⟨Ba (HS.o.trans H.o.symm),B⟩
end Go.Proofs.YtfcjiloojkjaeaaDoor
namespace Go.Proofs.YtfcjiloojkjaeaaDoor
open Go.Joins Go.ChangeShapes Go.WideShapes Go.RowKit Go.Deep
section
variable {H:Type}{enc:aM×aF->H}{P:bS}{w:aE}{base:Nat}{held:Bool}
variable {A:Option bO}{p:List zqd}
theorem zD0 {α:Type}[Inhabited α](f:α->List aF)(Q:α->Prop){s:Nat}(hs:0<s)(hf:∀a,(f a).length=s){t e:aM}{len cap:Nat}{d:DataW H}(ht:P.underlying t=some (.slice e))(hc:P.cellsOf e=s)
 (B7:∀(n:Nat) (cs:List aF) (x:DataW H×List zqd),DataW.trod enc P w base (λ_=>true) held n e cs=some x->cs.length=s->∃a,cs=f a/\Q a)
 (h:zos enc P w base (λ_=>true) held t (.slice A len cap) d p):∃ds:List α,cG w 0 w.heap.size s A len cap (ds.flatMap f)/\∀d∈ds,Q d:=by
 obtain⟨fuel,Ak⟩:=h;rcases open_slice ht Ak with⟨fP,_⟩|⟨a,len',N2,m,n,D,Pl,fP,_,hl,hm,L4,_,hx⟩
 .simp[Rh] at fP
  obtain⟨rfl,rfl,rfl⟩:=fP;exact⟨[],⟨aQ,aZ _,lB _,λh0=>absurd h0 aD⟩,λd hd=>by cases hd⟩
 .simp[Rh] at fP
  obtain⟨rfl,rfl,rfl⟩:=fP;simp at L4;subst L4;rw[hc] at hx
  obtain⟨V,hV⟩:=choose_lt (α:=α) (n:=len) (p:=λi v=>(∀j u,(f v)[j]? =some u->w.cell? ((a.add (i*s)).add j)=some u)/\Q v) (λi hi=>by
   obtain⟨Yp,h1,h2⟩:=hx i aD;obtain⟨_,hlen,zJA⟩:=aE.cells?_some h1;obtain⟨v,rfl,hQ⟩:=B7 n Yp _ h2 hlen;refine⟨v,λj u hu=>?_,hQ⟩;have hj:j<s:=by rw[<-hf v];exact(jW.1 hu).1
   have:=zJA j hj;rw[this,hu])
  refine⟨(gD len).map V,⟨by rw[Er f hf];simp,hl,hm,λh0=>?_⟩,λd hd=>?_⟩
  rotate_left
  .obtain⟨i,hi,rfl⟩:=Hv.1 hd
   exact(hV i (List.mem_range.1 hi)).2
  obtain⟨b,off,spot⟩:=a;have hg:∀i,i<len->∀j u,(f (V i))[j]? =some u->w.cell? (((⟨b,off,spot⟩:bO).add (i*s)).add j)=some u:=λi hi=>(hV i hi).1;have zDD:spot=none:=by
   obtain⟨u,hu⟩:∃u,(f (V 0))[0]? =some u:=⟨_,lP (by rw[hf];exact hs)⟩;have h1:=hg 0 h0 0 u hu;rw[zaS] at h1;simpa[zdT] using aE.cell?_spot h1
  subst zDD;have hb:b<w.heap.size:=by
   obtain⟨u,hu⟩:∃u,(f (V 0))[0]? =some u:=⟨_,lP (by rw[hf];exact hs)⟩;have h1:=hg 0 h0 0 u hu;have:=zt6 w _ h1;rw[add_plain,add_plain] at this;exact this
  refine⟨b,off,rfl,lB _,hb,hb,λj v hv=>?_⟩;obtain⟨i,k,rfl,hk⟩:∃i k,j=i*s+k/\k<s:=⟨j/s,j%s,by rw[Nat.mul_comm];exact(Nat.div_add_mod j s).symm,Nat.mod_lt _ hs⟩;rw[H4 f hf _ i k hk] at hv;obtain⟨x,Dt,Am⟩:=Option.bind_eq_some_iff.1 hv;rw[List.getElem?_map] at Dt;obtain⟨i',iY,rfl⟩:=Option.map_eq_some_iff.1 Dt;have Bw:i<len:=by
   have:=(jW.1 iY).1;simpa using this
  have:i'=i:=by rw[List.getElem?_range Bw] at iY;injection iY with iY;exact iY.symm
  subst this;have:=hg i' Bw k v Am;rw[add_plain,add_plain] at this;rw[<-this,Xg]
theorem zAV {t e:aM}{f0 f1 f2:Field}{len cap:Nat}{d:DataW H}(ht:P.underlying t=some (.slice e))(hc:P.cellsOf e=3)(he:P.underlying e=some (.struct #[f0,f1,f2]))
 (o0:f0.offset=0) (o1:f1.offset=1) (o2:f2.offset=2) (h0:P.underlying f0.type=some .string) (h1:P.underlying f1.type=some (.int .i64)) (h2:P.underlying f2.type=some (.int .i64)) (c0:P.cellsOf f0.type=1) (c1:P.cellsOf f1.type=1) (c2:P.cellsOf f2.type=1)
 (h:zos enc P w base (λ_=>true) held t (.slice A len cap) d p):∃ds:List dG,cG w 0 w.heap.size 3 A len cap (lW ds)/\∀d∈ds,d.k.size<=maxLen:=by
 letI:Inhabited dG:=⟨⟨⟨#[]⟩,0,0⟩⟩
 refine zD0 dG.cells (λd=>d.k.size<=maxLen) aH (λ_=>rfl) ht hc ?_ h;intro n cs x hx hl;obtain⟨xs,m,_,_,_,hlen,hg⟩:=DataW.trod_struct he hx
 match cs,hl with
 |[x0,x1,x2],_=>
  match xs,hlen with
  |[y0,y1,y2],_=>
   have g0:=hg 0 f0 rfl;have g1:=hg 1 f1 rfl;have g2:=hg 2 f2 rfl;rw[o0,c0] at g0;rw[o1,c1] at g1;rw[o2,c2] at g2;obtain⟨s,e0,_,hs⟩:=DataW.trod_string h0 g0;obtain⟨a,e1,_,_⟩:=Yj h1 g1;obtain⟨b,e2,_,_⟩:=Yj h2 g2;simp at e0 e1 e2;subst e0 e1 e2;exact⟨⟨s,a,b⟩,rfl,hs⟩
end
end Go.Proofs.YtfcjiloojkjaeaaDoor
namespace Go.Proofs.YtfcjiloojkjaeaaDoor
open Go.ChangeShapes Go.WideShapes Go.ChangeAt Go.RowKit
section
variable {P:bS}{w:aE}{base:Nat}
theorem zJu {t e:aM}{A:Option bO}{n c:Nat}{r:Reach}(ht:P.underlying t=some (.slice e))(h:ztS P w r base t (.slice A n c)):∀a,A=some a->a.spot=none/\∃cs T fz,w.heap[a.block]? =some (.cells cs T fz):=by
 intro a e;subst e;simp only[ztS,ht,Cell.okWide,Cell.ok,aE.has] at h;obtain⟨_,_,_,Iq,row,cells,lE,_⟩:=h;refine⟨Iq,?_⟩;unfold zb1 at lE;split at lE
 .rename_i cs T fz hb
  exact⟨cs,T,fz,hb⟩
 .cases lE
end
end Go.Proofs.YtfcjiloojkjaeaaDoor
namespace Go.Proofs.YtfcjiloojkjaeaaDoor
open Go.RowKit
def txt (l:List UInt8):Value:=.string ⟨l.toArray⟩
def E7 (ss:List (List UInt8)):List Value:=ss.map txt
variable {w:aE}{lo hi n c:Nat}{A:Option bO}{ds:List bJ}
theorem cG.callsLen (h:cG w lo hi 2 A n c (bF ds)):ds.length=n:=by
 have h1:=h.len;have h2:=Er bJ.cells (s:=2) (λ_=>rfl) ds;unfold bF at h1;omega
variable {k:Nat}
theorem cG.callsAt (h:cG w lo hi 2 A n c (bF ds))(hk:k<n):
 ∃b off d,A=some ⟨b,off,none⟩/\lo<=b/\b<hi/\b<w.heap.size/\ds[k]? =some d/\w.cell? ⟨b,off+k*2,none⟩=some (.int .i64 d.c)/\w.cell? ⟨b,off+k*2+1,none⟩=some (.int .i64 d.p):=by
 have hl:=h.callsLen;have hx:ds[k]? =some ds[k]:=lP aD;have g:∀i,i<2->(bF ds)[k*2+i]? =(ds[k].cells)[i]? :=λi hi=>by
  have:=H4 bJ.cells (s:=2) (λ_=>rfl) ds k i hi;rw[hx] at this;exact this
 obtain⟨b,off,rfl,h1,h2,h3,h4⟩:=h.cells hk;exact⟨b,off,ds[k],rfl,h1,h2,h3,hx,h4 0 _ (g 0 aH),by rw[Xg];exact h4 1 _ (g 1 aH)⟩
variable {W0:aE}{a1 a2:bO}{v1 v2:aF}
def pI {W:aE}(h:W.cell? a1=some v1/\W.cell? a2=some v2/\bU W0.heap.size W0 W):bU W0.heap.size W0 W:=h.2.2
def ztM {W':aE}(z1:a1.block<W0.heap.size)(z2:a2.block<W0.heap.size)(h1:W0.cell? a1=some v1)(h2:W0.cell? a2=some v2)(hb:bU W0.heap.size W0 W'):W'.cell? a1=some v1/\W'.cell? a2=some v2/\bU W0.heap.size W0 W':=
 ⟨(Co (hb.block _ z1)).trans h1,(Co (hb.block _ z2)).trans h2,hb⟩
section
variable {P:bS}(w:aE)
theorem zFW (t ty:aM)(base:Nat)(e:aM)(i:wI)(z:aF)(size bytes:Nat)(ht:P.underlying t=some (.slice e))(hi:P.info? e=some i)(hz:i.zero=some z)
 (wP:i.size=size) (uA:i.bytes=bytes) (hzs:z.cells.size=size) (cH:0<size)
 (g0 n c0:Nat) (xs:List aF) (cP:w.ownsRow base e size (.slice (some ⟨g0,0,none⟩) n c0) n xs)
 (A:Option bO) (m c lo iY:Nat) (news:List aF) (hs:cG w lo iY size A m c news) (h1:∀u∈news,u.oneCell'=true)
 (wV:n+m<=maxLen) (wW:(n+m)*bytes<=140737488355328) (qZ:base<=w.heap.size):
 ∃g cap w',(wG #[t,t] ty #[.slice (some ⟨g0,0,none⟩) n c0,.slice A m c]).run P w=.ok (.slice (some ⟨g,0,none⟩) (n+m) cap) w'/\
  w'.ownsRow base e size (.slice (some ⟨g,0,none⟩) (n+m) cap) (n+m) (xs++news)/\w.grownBy w' (K9 (.slice (some ⟨g0,0,none⟩) n c0))/\bU base w w':=by
 cases A with
 |none=>
  have hm:m=0:=by
   rcases Nat.eq_zero_or_pos m with h|h
   .exact h
   .obtain⟨b,off,e,_⟩:=hs.at_ h;cases e
  subst hm;have oQ:news=[]:=by have:=hs.len;simp at this;exact this
  subst oQ;have hle:n<=c0:=by
   obtain⟨_,h|⟨b,cap,cur,e,h1,h2,h3,_⟩⟩:=cP
   .cases h.1
   .injection e with _ _ e;omega
  have hr:=run_append_room_src (P:=P) w t t ty e i ht hi g0 0 n c0 (.slice none 0 c) 0 [] (Src.ofNil (P:=P) (e':=e) w ht c) aD (by intro j hj;simp at hj) (by intro j hj;simp at hj);refine⟨g0,c0,w,by simpa[aE.setCells] using hr,by simpa using cP,⟨rfl,rfl,rfl,aZ _,λ_ _ _=>rfl⟩,eR _ _⟩
 |some ad=>
  by_cases hm:0<m
  .obtain⟨b,off,e',_,_,_,h4⟩:=hs.at_ hm
   injection e' with e';subst e';exact zm3 w t ty base e i z size bytes ht hi hz wP uA hzs cH _ n xs cP aQ _ m c news hs.len (λj u hu=>by rw[bO.add_lit];exact h4 j u hu) h1 wV wW qZ
  .obtain rfl:m=0:=aD
   have oQ:news=[]:=by have:=hs.len;simp at this;exact this
   subst oQ;exact zm3 w t ty base e i z size bytes ht hi hz wP uA hzs cH _ n xs cP aQ _ 0 c [] aQ (λj u hu=>by simp at hu) (λu hu=>by cases hu) wV wW qZ
variable {o:aY}{a:Act}
theorem zDm {K:Act->aE->Prop}{Q:Exit->Act->aE->Prop}(s x:cM)(t:aM)
 (ho:o.op=.call {callee:=.builtin .append,args:=#[s,x],argTypes:=#[t,t]})
 (base:Nat) (e:aM) (i:wI) (z:aF) (size bytes:Nat) (ht:P.underlying t=some (.slice e)) (hi:P.info? e=some i) (hz:i.zero=some z)
 (wP:i.size=size) (uA:i.bytes=bytes) (hzs:z.cells.size=size) (cH:0<size)
 (g0 n c0:Nat) (xs:List aF) (zlB:a.eval s=.slice (some ⟨g0,0,none⟩) n c0) (cP:w.ownsRow base e size (.slice (some ⟨g0,0,none⟩) n c0) n xs)
 (A:Option bO) (m c lo iY:Nat) (news:List aF) (hx:a.eval x=.slice A m c) (hs:cG w lo iY size A m c news) (h1:∀u∈news,u.oneCell'=true)
 (wV:n+m<=maxLen) (wW:(n+m)*bytes<=140737488355328) (qZ:base<=w.heap.size)
 (h:∀g cap w',w'.ownsRow base e size (.slice (some ⟨g,0,none⟩) (n+m) cap) (n+m) (xs++news)->w.grownBy w' (K9 (.slice (some ⟨g0,0,none⟩) n c0))->bU base w w'->K (a.put o.dst (.slice (some ⟨g,0,none⟩) (n+m) cap)) w'):o.wp P a w K Q:=by
 obtain⟨g,cap,w',hr,h2,h3,h4⟩:=zFW (P:=P) w t o.type base e i z size bytes ht hi hz wP uA hzs cH g0 n c0 xs cP A m c lo iY news hs h1 wV wW qZ;unfold Ay execOp;simp only[ho,resolve,invoke,builtin,D5,Ib,D8,uG,fG,tH,zlB,hx,hr];exact h g cap w' h2 h3 h4
theorem zfS {ops:Array aY}{K:Act->aE->Prop}{Q:Exit->Act->aE->Prop}{EE:Prop}(hw:dA o (dN ops a.tmps)=true)(s x:cM)(t:aM)
 (ho:o.op=.call {callee:=.builtin .append,args:=#[s,x],argTypes:=#[t,t]})
 (base:Nat) (e:aM) (i:wI) (z:aF) (size bytes:Nat) (ht:P.underlying t=some (.slice e)) (hi:P.info? e=some i) (hz:i.zero=some z)
 (wP:i.size=size) (uA:i.bytes=bytes) (hzs:z.cells.size=size) (cH:0<size)
 (g0 n c0:Nat) (xs:List aF) (zlB:a.eval s=.slice (some ⟨g0,0,none⟩) n c0) (cP:w.ownsRow base e size (.slice (some ⟨g0,0,none⟩) n c0) n xs)
 (A:Option bO) (m c lo iY:Nat) (news:List aF) (hx:a.eval x=.slice A m c) (hs:cG w lo iY size A m c news) (h1:∀u∈news,u.oneCell'=true)
 (wV:n+m<=maxLen) (wW:(n+m)*bytes<=140737488355328) (qZ:base<=w.heap.size)
 (h:∀g cap w',w'.ownsRow base e size (.slice (some ⟨g,0,none⟩) (n+m) cap) (n+m) (xs++news)->w.grownBy w' (K9 (.slice (some ⟨g0,0,none⟩) n c0))->bU base w w'->K (a.put o.dst (.slice (some ⟨g,0,none⟩) (n+m) cap)) w'):
 if dA o (dN ops a.tmps)=true then Ay P o a w K Q else EE:=by
 rw[if_pos hw];exact zDm w s x t ho base e i z size bytes ht hi hz wP uA hzs cH g0 n c0 xs zlB cP A m c lo iY news hx hs h1 wV wW qZ h
end
variable {α:Type}
theorem zb4 {p:α->Bool}:∀{l:List α} {k:Nat} {a:α},l[k]? =some a->p a=true->(∀j,j<k->∀b,l[j]? =some b->p b=false)->l.findIdx? p=some k
 |[],k,a,h,_,_=>by simp at h
 |x::xs,0,a,h,ha,_=>by
  simp at h;subst h;rw[zxn,if_pos ha]
 |x::xs,k+1,a,h,ha,hn=>by
  have hx:=hn 0 aD x rfl;rw[zxn,hx,zb4 (l:=xs) (k:=k) zfg ha (λj hj b hb=>hn (j+1) aD b zgK)];simp
theorem zgY {p:α->Bool}{l:List α}(hn:∀j,j<k->∀b,l[j]? =some b->p b=false)(hk:l.length<=k):l.findIdx? p=none:=by
 rw[List.findIdx?_eq_none_iff];intro x hx;obtain⟨j,hj,e⟩:=Kh.1 hx;exact hn j aD x (by rw[lP hj,e])
theorem zpu {p:α->Bool}:∀{l:List α} {k:Nat} {a:α},l[k]? =some a->p a=true->(∀j,j<k->∀b,l[j]? =some b->p b=false)->l.find? p=some a
 |[],k,a,h,_,_=>by simp at h
 |x::xs,0,a,h,ha,_=>by
  simp at h;subst h;rw[zpe,ha]
 |x::xs,k+1,a,h,ha,hn=>by
  have hx:=hn 0 aD x rfl;rw[zpe,hx];exact zpu (l:=xs) (k:=k) zfg ha (λj hj b hb=>hn (j+1) aD b zgK)
theorem zDO {p:α->Bool}{l:List α}(hn:∀j,j<k->∀b,l[j]? =some b->p b=false)(hk:l.length<=k):l.find? p=none:=by
 rw[List.find?_eq_none];intro x hx;obtain⟨j,hj,e⟩:=Kh.1 hx;rw[hn j aD x (by rw[lP hj,e])];simp
theorem Rt {p:α->Bool}{l:List α}{a:α}(h:∀j,j<k->∀b,l[j]? =some b->p b=false)(hk:l[k]? =some a)(ha:p a=false):∀j,j<k+1->∀b,l[j]? =some b->p b=false:=by
 intro j hj b hb;by_cases e:j=k
 .subst e;rw[hk] at hb;injection hb with hb;exact hb▸ha
 .exact h j aD b hb
theorem Iy (lo hi n c:Nat)(A:Option bO)(rs:List bR)(q:Int)(w:aE)(h:cG w lo hi 7 A n c (recs rs))(hn:n<=1048576):
 iE aK 54 #[.slice A n c,.int .i64 q] w λe w'=>e=.returned (.int .i64 (Fj (jD rs q)))/\w'=w:=by
 have hl:=aC h.recLen
 go_enter Tryd.func54,Tryd.ntmps54
 go_wp2
 go_loop [5] (λi=>∃k:Nat,k<=n/\i=.int .i64 k/\∀j,j<k->∀b,rs[j]? =some b->zU q b=false) (λi=>n-(intOf i).toNat)
 case atStart=>exact⟨0,lB _,rfl,λj hj=>absurd hj aD⟩
 case round=>
  obtain⟨k,hk,rfl,fP⟩:=hrel;have HC:=aC fP;clear fP;by_cases aP:k<n
  .obtain⟨b,off,d,hA,_,_,h3,eB,eM,mJ,sO,Fg,Gr,mK,zgC⟩:=h.rec7 aP
   subst hA;have HX:=aC eB;clear eB h mJ sO Fg Gr mK h3;have i0:(0:Int)<=(k:Int):=aD;have i1:(k:Int)<(n:Int):=aD;cases hq:(d.c==q)
   .have HP:=aC (show zU q d=false by unfold zU;rw[hq];rfl)
    go_wp2
    go_round
    case rel=>exact⟨k+1,aD,pT,Rt HC.o HX.o HP.o⟩
    case measure=>simp[intOf];omega
   .cases hd:(d.e.toList==[111,112,101,110])
    .have HP:=aC (show zU q d=false by unfold zU eA;rw[hq,hd];rfl)
     go_wp2
     go_round
     case rel=>exact⟨k+1,aD,pT,Rt HC.o HX.o HP.o⟩
     case measure=>simp[intOf];omega
    .have HP:=aC (show zU q d=true by unfold zU eA;rw[hq,hd];rfl)
     go_wp2;go_ret;exact⟨Ba (by unfold jD;rw[zb4 HX.o HP.o HC.o];rfl),rfl⟩
  .have e:k=n:=aD
   subst e;clear h;go_wp2;go_ret;exact⟨Ba (by unfold jD;rw[zgY HC.o zez];rfl),rfl⟩
theorem P8 (lo hi n c:Nat)(A:Option bO)(rs:List bR)(q:Int)(w:aE)(h:cG w lo hi 7 A n c (recs rs))(hn:n<=1048576):
 iE aK 58 #[.slice A n c,.int .i64 q] w λe w'=>e=.returned (.int .i64 (dJ rs q))/\w'=w:=by
 have hl:=aC h.recLen
 go_enter Tryd.func58,Tryd.ntmps58
 go_wp2
 go_loop [5] (λi=>∃k:Nat,k<=n/\i=.int .i64 k/\∀j,j<k->∀b,rs[j]? =some b->vQ q b=false) (λi=>n-(intOf i).toNat)
 case atStart=>exact⟨0,lB _,rfl,λj hj=>absurd hj aD⟩
 case round=>
  obtain⟨k,hk,rfl,fP⟩:=hrel;have HC:=aC fP;clear fP;by_cases aP:k<n
  .obtain⟨b,off,d,hA,_,_,h3,eB,eM,mJ,sO,Fg,Gr,mK,zgC⟩:=h.rec7 aP
   subst hA;have HX:=aC eB;clear eB h mJ Fg Gr mK h3;have i0:(0:Int)<=(k:Int):=aD;have i1:(k:Int)<(n:Int):=aD;cases hq:(d.o==q)
   .have HP:=aC (show vQ q d=false by unfold vQ;rw[hq];rfl)
    go_wp2
    go_round
    case rel=>exact⟨k+1,aD,pT,Rt HC.o HX.o HP.o⟩
    case measure=>simp[intOf];omega
   .cases hd:(d.e.toList==[111,112,101,110])
    .have HP:=aC (show vQ q d=false by unfold vQ eA;rw[hq,hd];rfl)
     go_wp2
     go_round
     case rel=>exact⟨k+1,aD,pT,Rt HC.o HX.o HP.o⟩
     case measure=>simp[intOf];omega
    .have HP:=aC (show vQ q d=true by unfold vQ eA;rw[hq,hd];rfl)
     go_wp2;go_ret;exact⟨Ba (by unfold dJ;rw[zpu HX.o HP.o HC.o]),rfl⟩
  .have e:k=n:=aD
   subst e;clear h;go_wp2;go_ret;exact⟨Ba (by unfold dJ;rw[zDO HC.o zez]),rfl⟩
theorem Zb (lo hi n c:Nat)(A:Option bO)(xs:List bJ)(q:Int)(w:aE)(h:cG w lo hi 2 A n c (bF xs))(hn:n<=1048576):
 iE aK 55 #[.slice A n c,.int .i64 q] w λe w'=>e=.returned (.int .i64 (Fj (uX xs q)))/\w'=w:=by
 have hl:=aC h.callsLen
 go_enter Tryd.func55,Tryd.ntmps55
 go_wp2
 go_loop [5] (λi=>∃k:Nat,k<=n/\i=.int .i64 k/\∀j,j<k->∀b,xs[j]? =some b->(b.c==q)=false) (λi=>n-(intOf i).toNat)
 case atStart=>exact⟨0,lB _,rfl,λj hj=>absurd hj aD⟩
 case round=>
  obtain⟨k,hk,rfl,fP⟩:=hrel;have HC:=aC fP;clear fP;by_cases aP:k<n
  .obtain⟨b,off,d,hA,_,_,h3,eB,eM,mJ⟩:=h.callsAt aP
   subst hA;have HX:=aC eB;clear eB h mJ h3;have i0:(0:Int)<=(k:Int):=aD;have i1:(k:Int)<(n:Int):=aD;cases hq:(d.c==q)
   .have HP:=aC hq
    go_wp2
    go_round
    case rel=>exact⟨k+1,aD,pT,Rt HC.o HX.o HP.o⟩
    case measure=>simp[intOf];omega
   .have HP:=aC hq
    go_wp2;go_ret;exact⟨Ba (by unfold uX;rw[zb4 HX.o HP.o HC.o];rfl),rfl⟩
  .have e:k=n:=aD
   subst e;clear h;go_wp2;go_ret;exact⟨Ba zq1,rfl⟩
def zlL (E s:Nat)(w:aE)(m:Nat)(xs:List aF)(v:aF)(w':aE):Prop:=∃g cp,v=.slice (some ⟨g,0,none⟩) m cp/\w'.ownsRow w.heap.size E s (.slice (some ⟨g,0,none⟩) m cp) m xs/\bU w.heap.size w w'
theorem zoZ (bs:List bJ)(b:bJ):bF (bs++[b])=bF bs++b.cells:=by simp[bF]
def zex:(aK.info? 79).map (λi=>(i.zero,i.size,i.bytes))=some (some (.agg #[.int .i64 0,.int .i64 0]),2,16):=aS
theorem zEP {xs:List bJ}{d:bJ}(q:Int)(h:xs[k]? =some d):dQ (xs.take (k+1)) q=dQ (xs.take k) q++(if d.c !=q then[d] else[]):=by
 unfold dQ;rw[L0,h,Pd];congr 1;simp[ztC]
theorem zdx (lo hi n c:Nat)(A:Option bO)(xs:List bJ)(q:Int)(w:aE)(h:cG w lo hi 2 A n c (bF xs))(hn:n<=100000):
 iE aK 59 #[.slice A n c,.int .i64 q] w λe w'=>∃v,e=.returned v/\zlL 79 2 w (dQ xs q).length (bF (dQ xs q)) v w':=by
 have hl:=aC h.callsLen;obtain⟨i0,fL,jJ,eE,kZ⟩:=y3 zex;have HI:=aC (And.intro fL (And.intro jJ (And.intro eE kZ)));clear fL jJ eE kZ
 go_enter Tryd.func59,Tryd.ntmps59
 go_wp2
 go_loopw [5,6] (λv i wr=>∃(k g L cl:Nat),k<=n/\i=.int .i64 k/\L=(dQ (xs.take k) q).length/\v=.slice (some ⟨g,0,none⟩) L cl/\bU w.heap.size w wr/\wr.ownsRow w.heap.size 79 2 (.slice (some ⟨g,0,none⟩) L cl) L (bF (dQ (xs.take k) q))) (λ_ i _=>n-(intOf i).toNat)
 case atStart=>exact⟨0,w.heap.size,0,0,lB _,rfl,rfl,rfl,dO (eR _ _) _,Oh (aZ _) (lO _ _)⟩
 case round=>
  obtain⟨k,g,L,cl,hk,rfl,hL,rfl,B,cP⟩:=hrel;have HL:=aC hL;have Tc:=aC cP;have HB:=aC B;have zGN:=B.size;have hlen:L<=k:=by rw[hL];unfold dQ;exact eP (zbe _ _) rF
  clear hL cP;by_cases aP:k<n
  .obtain⟨b,off,d,hA,_,_,h3,eB,eM,mJ⟩:=(h.below B).callsAt aP
   subst hA;have HF:=aC (zEP q eB);clear eB h h3 B;have zAv:(0:Int)<=(k:Int):=aD;have i1:(k:Int)<(n:Int):=aD;cases hq:(d.c !=q)
   .rw[hq] at HF
    have HN:=aC (show dQ (xs.take (k+1)) q=dQ (xs.take k) q by rw[HF.o];simp);go_wp2;go_roundw
    case rel=>exact⟨k+1,g,L,cl,aD,pT,by rw[HN.o];exact HL.o,rfl,HB.o,by rw[HN.o];exact Tc.o⟩
    case measure=>simp[intOf];omega
   .rw[hq] at HF
    have HN:=aC (show dQ (xs.take (k+1)) q=dQ (xs.take k) q++[d] by rw[HF.o];simp);obtain⟨fL,jJ,eE,kZ⟩:=HI.o;have HH:=aC fL;clear fL
    go_wp2_with (at_builtin;refine zwm _ rfl (.tmp 21) (.tmp 26) 37 rfl w.heap.size 79 i0 (.agg #[.int .i64 0,.int .i64 0]) 2 16 Je HH.o jJ eE kZ rfl aH (.slice (some ⟨g,0,none⟩) L cl) L (bF (dQ (xs.take k) q)) rfl (Af Tc.o ?c1) aQ ⟨_,0,none⟩ 1 1 (bJ.cells d) rfl rfl ?c2 Ru ?c5 ?c6 ?c7 ?_;(case c1=>exact λb hb=>tL _ _ b hb);(case c2=>exact Em (cs:=(bJ.cells d).toArray) (mX _ _ aQ));(case c5=>unfold maxLen;omega);(case c6=>omega);(case c7=>(simp;omega));intro g1 c1 w1 sM rA B1;have Av:=aC sM;have sG:=aC B1;clear sM rA B1)
    go_roundw
    case rel=>
     refine⟨k+1,g1,L+1,c1,aD,pT,by rw[HN.o,HL.o];simp,rfl,(dO HB.o _).trans sG.o,?_⟩;rw[HN.o,zoZ];exact Av.o
    case measure=>simp[intOf];omega
  .have e:k=n:=aD
   subst e;have HT:=aC (show xs.take k=xs by rw[yR zez]);clear h B;go_wp2;go_ret;refine⟨_,rfl,g,cl,by rw[HL.o,HT.o];rfl,?_,HB.o⟩;have:=Tc.o;rw[HL.o,HT.o] at this;exact this
section
variable {P:bS}(w:aE)
theorem zgH (t ty:aM)(base:Nat)(e:aM)(i:wI)(z:aF)(size bytes:Nat)(ht:P.underlying t=some (.slice e))(hi:P.info? e=some i)(hz:i.zero=some z)
 (wP:i.size=size) (uA:i.bytes=bytes) (hzs:z.cells.size=size) (cH:0<size)
 (gv cv n:Nat) (xs:List aF) (cP:w.ownsRow base e size (.slice (some ⟨gv,0,none⟩) n cv) n xs)
 (ad:bO) (m c:Nat) (news:List aF) (hl:news.length=m*size) (Eg:∀j u,news[j]? =some u->w.cell? (ad.add j)=some u) (h1:∀u∈news,u.oneCell'=true)
 (wV:n+m<=maxLen) (wW:(n+m)*bytes<=140737488355328) (qZ:base<=w.heap.size):
 ∃g cap w',(wG #[t,t] ty #[.slice (some ⟨gv,0,none⟩) n cv,.slice (some ad) m c]).run P w=.ok (.slice (some ⟨g,0,none⟩) (n+m) cap) w'/\
  w'.ownsRow base e size (.slice (some ⟨g,0,none⟩) (n+m) cap) (n+m) (xs++news)/\w.grownBy w' (some gv)/\bU base w w'/\(g=gv\/g=w.heap.size):=by
 obtain⟨v',w',hr,h2,h3,h4,h5⟩:=zuQ (P:=P) w base t ty e i z size bytes ht hi hz wP uA hzs cH _ n xs cP ad m c news hl Eg h1 wV wW qZ;obtain⟨g,cap,rfl⟩:=zmM h2 (λh=>by have:=(h4.1 h).1;cases this);refine⟨g,cap,w',hr,h2,h3,zvD cP h3 qZ,?_⟩;rcases h5 with h5|h5
 .exact .inl (by simpa[K9] using h5)
 .exact .inr (by simpa[K9] using h5)
variable {o:aY}{a:Act}
theorem zEo {K:Act->aE->Prop}{Q:Exit->Act->aE->Prop}(s x:cM)(t:aM)
 (ho:o.op=.call {callee:=.builtin .append,args:=#[s,x],argTypes:=#[t,t]})
 (base:Nat) (e:aM) (i:wI) (z:aF) (size bytes:Nat) (ht:P.underlying t=some (.slice e)) (hi:P.info? e=some i) (hz:i.zero=some z)
 (wP:i.size=size) (uA:i.bytes=bytes) (hzs:z.cells.size=size) (cH:0<size)
 (gv cv n:Nat) (xs:List aF) (hs:a.eval s=.slice (some ⟨gv,0,none⟩) n cv) (cP:w.ownsRow base e size (.slice (some ⟨gv,0,none⟩) n cv) n xs)
 (ad:bO) (m c:Nat) (news:List aF) (hx:a.eval x=.slice (some ad) m c) (hl:news.length=m*size) (Eg:∀j u,news[j]? =some u->w.cell? (ad.add j)=some u) (h1:∀u∈news,u.oneCell'=true)
 (wV:n+m<=maxLen) (wW:(n+m)*bytes<=140737488355328) (qZ:base<=w.heap.size)
 (h:∀g cap w',w'.ownsRow base e size (.slice (some ⟨g,0,none⟩) (n+m) cap) (n+m) (xs++news)->w.grownBy w' (some gv)->bU base w w'->(g=gv\/g=w.heap.size)->K (a.put o.dst (.slice (some ⟨g,0,none⟩) (n+m) cap)) w'):o.wp P a w K Q:=by
 obtain⟨g,cap,w',hr,h2,h3,h4,h5⟩:=zgH (P:=P) w t o.type base e i z size bytes ht hi hz wP uA hzs cH gv cv n xs cP ad m c news hl Eg h1 wV wW qZ;unfold Ay execOp;simp only[ho,resolve,invoke,builtin,D5,Ib,D8,uG,fG,tH,hs,hx,hr];exact h g cap w' h2 h3 h4 h5
def zjg {ops:Array aY}{rest:List aY}{Q:Exit->Act->aE->Prop}(Dn:o.guard=none)(s x:cM)(t:aM)
 (ho:o.op=.call {callee:=.builtin .append,args:=#[s,x],argTypes:=#[t,t]})
 (base:Nat) (e:aM) (i:wI) (z:aF) (size bytes:Nat) (ht:P.underlying t=some (.slice e)) (hi:P.info? e=some i) (hz:i.zero=some z)
 (wP:i.size=size) (uA:i.bytes=bytes) (hzs:z.cells.size=size) (cH:0<size)
 (gv cv n:Nat) (xs:List aF) (hs:a.eval s=.slice (some ⟨gv,0,none⟩) n cv) (cP:w.ownsRow base e size (.slice (some ⟨gv,0,none⟩) n cv) n xs)
 (ad:bO) (m c:Nat) (news:List aF) (hx:a.eval x=.slice (some ad) m c) (hl:news.length=m*size) (Eg:∀j u,news[j]? =some u->w.cell? (ad.add j)=some u) (h1:∀u∈news,u.oneCell'=true)
 (wV:n+m<=maxLen) (wW:(n+m)*bytes<=140737488355328) (qZ:base<=w.heap.size)
 (h:∀g cap w',w'.ownsRow base e size (.slice (some ⟨g,0,none⟩) (n+m) cap) (n+m) (xs++news)->w.grownBy w' (some gv)->bU base w w'->(g=gv\/g=w.heap.size)->wpList P ops Q rest (a.put o.dst (.slice (some ⟨g,0,none⟩) (n+m) cap)) w'):wpList P ops Q (o::rest) a w:=
 wpList_plain Dn λ_ hK=>zEo w s x t ho base e i z size bytes ht hi hz wP uA hzs cH gv cv n xs hs cP ad m c news hx hl Eg h1 wV wW qZ λg cap w' h2 h3 h4 h5=>hK _ _ (h g cap w' h2 h3 h4 h5)
end
structure fD where
 gR:Nat
 cR:Nat
 gW:Nat
 cW:Nat
 gB:Nat
 cB:Nat
 gL:Nat
 cL:Nat
abbrev fD.sR (v:fD)(r:b6):Value:=.slice (some ⟨v.gR,0,none⟩) r.recs.length v.cR
abbrev fD.sW (v:fD)(r:b6):Value:=.slice (some ⟨v.gW,0,none⟩) r.wait.length v.cW
abbrev fD.sB (v:fD)(r:b6):Value:=.slice (some ⟨v.gB,0,none⟩) r.back.length v.cB
abbrev fD.sL (v:fD)(r:b6):Value:=.slice (some ⟨v.gL,0,none⟩) r.log.length v.cL
abbrev fO (v:fD)(r:b6):Array Value:=#[.int .i64 r.o.ln,.int .i64 r.o.op,.int .i64 r.o.pt,.int .i64 r.clk,v.sR r,v.sW r,v.sB r,v.sL r]
abbrev Ew (v:fD)(r:b6):Obj:=.cells (fO v r) 40
structure dR (w:aE)(lo:Nat)(v:fD)(r:b6):Prop where
 rc:w.ownsRow lo 107 7 (v.sR r) r.recs.length (recs r.recs)
 wt:w.ownsRow lo 79 2 (v.sW r) r.wait.length (bF r.wait)
 bk:w.ownsRow lo 79 2 (v.sB r) r.back.length (bF r.back)
 lg:w.ownsRow lo 9 1 (v.sL r) r.log.length (E7 r.log)
 ap:v.gR≠v.gW/\v.gR≠v.gB/\v.gR≠v.gL/\v.gW≠v.gB/\v.gW≠v.gL/\v.gB≠v.gL
structure n5 (v:fD)(w w':aE):Prop where
 os:w'.os=w.os
 tape:w'.tape=w.tape
 output:w'.output=w.output
 size:w.heap.size<=w'.heap.size
 block:∀b,b<w.heap.size->b≠v.gR->b≠v.gB->w'.heap[b]? =w.heap[b]?
structure vX (n:Nat)(v v':fD):Prop where
 r:v'.gR=v.gR\/n<=v'.gR
 w:v'.gW=v.gW\/n<=v'.gW
 b:v'.gB=v.gB\/n<=v'.gB
 l:v'.gL=v.gL
section
variable {w w' Ef:aE}{lo:Nat}{v v' zbK:fD}{r:b6}
def n5.of_below (v:fD)(h:bU w.heap.size w w'):n5 v w w':=⟨h.os,h.tape,h.output,h.size,λb hb _ _=>h.block b hb⟩
theorem n5.trans {n:Nat}(h:n5 v w w')(k:n5 v' w' Ef)(m:vX n v v')(hn:w.heap.size<=n):n5 v w Ef:=
 ⟨k.os.trans h.os,k.tape.trans h.tape,k.output.trans h.output,eP h.size k.size,λb hb h1 h2=>(k.block b (lA hb h.size) (λe=>by rcases m.r with x|x<;>omega) (λe=>by rcases m.b with x|x<;>omega)).trans (h.block b hb h1 h2)⟩
def n5.same (h:n5 v w w')(k:n5 v w' Ef):n5 v w Ef:=
 ⟨k.os.trans h.os,k.tape.trans h.tape,k.output.trans h.output,eP h.size k.size,λb hb h1 h2=>(k.block b (lA hb h.size) h1 h2).trans (h.block b hb h1 h2)⟩
def vX.refl (n:Nat)(v:fD):vX n v v:=⟨.inl rfl,.inl rfl,.inl rfl,rfl⟩
theorem vX.trans {n m:Nat}(h:vX n v v')(k:vX m v' zbK)(hm:n<=m):vX n v zbK:=
 ⟨
  k.r.elim (λe=>h.r.imp (λx=>e.trans x) (λx=>by omega)) (λx=>.inr aD),k.w.elim (λe=>h.w.imp (λx=>e.trans x) (λx=>by omega)) (λx=>.inr aD),
  k.b.elim (λe=>h.b.imp (λx=>e.trans x) (λx=>by omega)) (λx=>.inr aD),k.l.trans h.l⟩
def dR.keep (h:dR w lo v r)(k:∀b,b<w.heap.size->w'.heap[b]? =w.heap[b]?):dR w' lo v r:=⟨Af h.rc k,Af h.wt k,Af h.bk k,Af h.lg k,h.ap⟩
def dR.below (h:dR w lo v r)(k:bU w.heap.size w w'):dR w' lo v r:=h.keep λb hb=>k.block b hb
def dR.alloc (h:dR w lo v r)(o:sY):dR (w.alloc o) lo v r:=h.keep λb hb=>tL w o b hb
def dR.lts (h:dR w lo v r):lo<=v.gR/\v.gR<w.heap.size/\lo<=v.gW/\v.gW<w.heap.size/\lo<=v.gB/\v.gB<w.heap.size/\lo<=v.gL/\v.gL<w.heap.size:=
 ⟨(h.rc.lt _ rfl).1,(h.rc.lt _ rfl).2,(h.wt.lt _ rfl).1,(h.wt.lt _ rfl).2,(h.bk.lt _ rfl).1,(h.bk.lt _ rfl).2,(h.lg.lt _ rfl).1,(h.lg.lt _ rfl).2⟩
def dR.slcR (h:dR w lo v r):cG w lo w.heap.size 7 (some ⟨v.gR,0,none⟩) r.recs.length v.cR (recs r.recs):=zQ h.rc aH
def dR.slcW (h:dR w lo v r):cG w lo w.heap.size 2 (some ⟨v.gW,0,none⟩) r.wait.length v.cW (bF r.wait):=zQ h.wt aH
def dR.slcB (h:dR w lo v r):cG w lo w.heap.size 2 (some ⟨v.gB,0,none⟩) r.back.length v.cB (bF r.back):=zQ h.bk aH
def dR.clock (h:dR w lo v r)(k:Int):dR w lo v {r with clk:=k}:=⟨h.rc,h.wt,h.bk,h.lg,h.ap⟩
variable {xs:List bJ}
theorem dR.newW {m g c:Nat}(h:dR w lo v r)(hk:∀b,b<w.heap.size->w'.heap[b]? =w.heap[b]?)(ho:w'.ownsRow lo 79 2 (.slice (some ⟨g,0,none⟩) m c) m (bF xs))(hm:m=xs.length)(hg:w.heap.size<=g):
 dR w' lo {v with gW:=g,cW:=c} {r with wait:=xs}:=by
 have l:=h.lts;have k:=h.keep hk;subst hm;exact⟨k.rc,ho,k.bk,k.lg,by have:=h.ap;simp only;omega⟩
theorem dR.newB {m g c:Nat}(h:dR w lo v r)(hk:∀b,b<w.heap.size->w'.heap[b]? =w.heap[b]?)(ho:w'.ownsRow lo 79 2 (.slice (some ⟨g,0,none⟩) m c) m (bF xs))(hm:m=xs.length)(hg:w.heap.size<=g):
 dR w' lo {v with gB:=g,cB:=c} {r with back:=xs}:=by
 have l:=h.lts;have k:=h.keep hk;subst hm;exact⟨k.rc,k.wt,ho,k.lg,by have:=h.ap;simp only;omega⟩
theorem dR.appB {m g c:Nat}{x:bJ}(h:dR w lo v r)(hg:w.grownBy w' (some v.gB))(ho:w'.ownsRow lo 79 2 (.slice (some ⟨g,0,none⟩) m c) m (bF r.back++x.cells))(hm:m=r.back.length+1)(hw:g=v.gB\/w.heap.size<=g):
 dR w' lo {v with gB:=g,cB:=c} {r with back:=r.back++[x]}:=by
 have l:=h.lts;have a:=h.ap;subst hm;refine⟨h.rc.kept hg (.inr F5),h.wt.kept hg (.inr F5),?_,h.lg.kept hg (.inr F5),by simp only;omega⟩;have e:bF (r.back++[x])=bF r.back++x.cells:=zoZ _ _;simp only[fD.sB,gJ,pG,tV];rw[e];exact ho
theorem dR.appR {m g c:Nat}{x:bR}(h:dR w lo v r)(hg:w.grownBy w' (some v.gR))(ho:w'.ownsRow lo 107 7 (.slice (some ⟨g,0,none⟩) m c) m (recs r.recs++x.cells))(hm:m=r.recs.length+1)(hw:g=v.gR\/w.heap.size<=g):
 dR w' lo {v with gR:=g,cR:=c} {r with recs:=r.recs++[x]}:=by
 have l:=h.lts;have a:=h.ap;subst hm;refine⟨?_,h.wt.kept hg (.inr F5),h.bk.kept hg (.inr F5),h.lg.kept hg (.inr F5),by simp only;omega⟩;have e:recs (r.recs++[x])=recs r.recs++x.cells:=by simp[recs]
 simp only[fD.sR,gJ,pG,tV];rw[e];exact ho
theorem dR.appL {m g c:Nat}{x:List UInt8}(h:dR w lo v r)(hg:w.grownBy w' (some v.gL))(ho:w'.ownsRow lo 9 1 (.slice (some ⟨g,0,none⟩) m c) m (E7 r.log++[.string ⟨x.toArray⟩]))(hm:m=r.log.length+1)(hw:g=v.gL\/w.heap.size<=g):
 dR w' lo {v with gL:=g,cL:=c} {r with log:=r.log++[x]}:=by
 have l:=h.lts;have a:=h.ap;subst hm;refine⟨h.rc.kept hg (.inr F5),h.wt.kept hg (.inr F5),h.bk.kept hg (.inr F5),?_,by simp only;omega⟩;have e:E7 (r.log++[x])=E7 r.log++[.string ⟨x.toArray⟩]:=by simp[E7,txt]
 simp only[fD.sL,gJ,pG,tV];rw[e];exact ho
end
variable {d:bR}{rs:List bR}{i:Nat}{v:aF}
theorem zwP {j:Nat}{f:bR->bR}(hd:rs[i]? =some d)(hj:j<7)(hs:∀k,k<7->k≠j->(f d).cells[k]? =d.cells[k]?)(hv:(f d).cells[j]? =some v):(recs rs).set (i*7+j) v=recs (rs.modify i f):=by
 apply X5;intro q;obtain⟨a,b,rfl,hb⟩:∃a b,q=a*7+b/\b<7:=⟨q/7,q%7,aD,aD⟩;have g:∀(l:List bR),(recs l)[a*7+b]? =(l[a]?).bind λx=>x.cells[b]? :=λl=>H4 bR.cells (s:=7) (λ_=>rfl) l a b hb;rw[List.getElem?_set,g,g,zG];have hlen:=znG rs;have hi:=(jW.1 hd).1;by_cases e:i*7+j=a*7+b
 .have e1:i=a:=aD
  have e2:j=b:=aD;subst e1 e2;rw[if_pos e,if_pos aD,hd];simp[hv]
 .rw[if_neg e]
  by_cases e1:i=a
  .subst e1
   rw[hd];have:=hs b hb aD;simp[this]
  .simp[e1]
theorem zF9 (l:Int)(h:rs[k]? =some d):qW (rs.take (k+1)) l=(qW (rs.take k) l||(d.l==l&&eA d)):=by
 unfold qW;rw[L0,h];simp[List.any_append]
theorem zyf (rs:List bR)(n:Nat):xR rs (n+1)=xR rs n++(if qW rs ((n:Int)+1) then[] else[(n:Int)+1]):=by
 unfold xR;rw[List.range_succ,List.map_append,Pd];congr 1;simp only[fG,tH,ztC,List.filter_nil];cases qW rs ((n:Int)+1)<;>simp
theorem zk7 (rs:List bR)(n:Nat):(xR rs n).length<=n:=by
 unfold xR;exact eP (zbe _ _) aQ
theorem zFS (xs:List Int)(x:Int):jN (xs++[x])=jN xs++[.int .i64 x]:=by simp[jN]
def zDr:(aK.info? 3).map (λi=>(i.zero,i.size,i.bytes))=some (some (.int .i64 0),1,8):=aS
def Cd {o:jE}(h:qY o=true):1<=o.ln/\o.ln<=6/\1<=o.op/\o.op<=4/\1<=o.pt/\o.pt<=60:=of_decide_eq_true h
theorem zr5 (lo:Nat)(v:fD)(r:b6)(w:aE)(h:dR w lo v r)(hn:r.recs.length<=100000)(ho:qY r.o=true):
 iE aK 53 #[.agg (fO v r)] w λe w'=>∃x,e=.returned x/\zlL 3 1 w (n6 r.o r.recs).length (jN (n6 r.o r.recs)) x w':=by
 obtain⟨i0,fL,jJ,eE,kZ⟩:=y3 zDr;have HI:=aC (And.intro fL (And.intro jJ (And.intro eE kZ)));clear fL jJ eE kZ;obtain⟨l0,l1,-,-,-,-⟩:=Cd ho;have hs:=h.slcR;obtain⟨n,Br⟩:=aU r.recs.length;have zJF:n<=100000:=aD;have HN:=aC Br;obtain⟨rs,zd1⟩:=aU r.recs;have zKw:=aC zd1;obtain⟨gb,eK⟩:=aU w.heap.size;have fK:=aC eK;obtain⟨ln,x5⟩:=aU r.o.ln;have zqg:=aC x5;obtain⟨m,hm⟩:=aU (ln.toNat:Nat);have Vd:ln=(m:Int):=aD;obtain⟨O,hO⟩:=aU (.cells (fO v r) 40:sY);have kW:(w.alloc O).heap[gb]? =some (Ew v r):=by rw[hO,eK];exact lO _ _
 have B0:bU w.heap.size w (w.alloc O):=dO (eR _ _) O;have hz:(w.alloc O).heap.size=gb+1:=by rw[eK];simp
 have hF:n6 r.o r.recs=xR rs m:=by unfold n6;rw[<-x5,<-zd1,<-hm]
 have HF:=aC hF;have Y0:=aJ kW 0;rw[<-Br,<-zd1] at hs;have zHT:=aC kW;have zaW:=aC B0;have HZ:=aC hz;rw[<-x5] at l0 l1;clear hF Br zd1 eK x5 hm h Y0;have HO:=aC hO;have zAb:=aC Vd;rw[Vd] at l0 l1;clear hO kW B0 hz
 go_enter Tryd.func53,Tryd.ntmps53
 go_wp2_with fail
 rw[<-HO.o]
 go_loopw [3,4] (λx i wr=>∃(k g L cl:Nat),k<=m/\i=.int .i64 ((k:Int)+1)/\L=(xR rs k).length/\x=.slice (some ⟨g,0,none⟩) L cl/\bU (gb+1) (w.alloc O) wr/\wr.ownsRow (gb+1) 3 1 (.slice (some ⟨g,0,none⟩) L cl) L (jN (xR rs k))) (λ_ i _=>1000-(intOf i).toNat)
 case atStart=>
  have hz:=HZ.o;refine⟨0,gb+1,0,0,lB _,aQ,rfl,by rw[fK.o],?_,Oh (aZ _) (mX _ _ hz.symm)⟩;rw[<-hz];exact dO (eR _ _) _
 case round=>
  obtain⟨k,g,L,cl,hk,rfl,hL,rfl,B,cP⟩:=hrel;have HL:=aC hL;have Tc:=aC cP;have HB:=aC B;have zGN:=B.size;have hz:=HZ.o;have qD:=(B.block gb aD).trans zHT.o;have e0:=aJ qD 0;have e4:=aJ qD 4;have hlen:=zk7 rs k;rw[<-hL] at hlen;have G0:=hs.below (zaW.o.trans (B.mono (by have:=fK.o;omega)));have zdf:wr.cell? ⟨w.heap.size,0,none⟩=some (.int .i64 (m:Int)):=by rw[<-fK.o,e0,<-zAb.o,zqg.o];rfl
  have zJB:wr.cell? ⟨w.heap.size,4,none⟩=some (.slice (some ⟨v.gR,0,none⟩) n v.cR):=by rw[<-fK.o,e4,HN.o];rfl
  have zeD:=aC (zyf rs k);have zIP:=aC G0.recLen;clear hL cP e0 e4 qD B hz hs;by_cases aP:k<m
  .obtain⟨l,hl⟩:=aU ((k:Int)+1:Int)
   have zK7:1<=l:=aD;have zn4:l<=(m:Int):=aD;rw[<-hl] at zeD⊢;have zdQ:=aC hl;clear hl
   go_wp2_with fail
   go_loop [5,6] (λu i=>∃j:Nat,j<=n/\u=.bool (qW (rs.take j) l)/\i=.int .i64 j) (λ_ i=>n-(intOf i).toNat)
   case atStart=>exact⟨0,lB _,rfl,rfl⟩
   case round=>
    obtain⟨j,hj,rfl,rfl⟩:=hrel;by_cases zG8:j<n
    .obtain⟨b,off,d,hA,_,_,h3,eB,eM,mJ,sO,Fg,Gr,mK,zgC⟩:=G0.rec7 zG8
     have HU:=aC (zF9 l eB);have i0:(0:Int)<=(j:Int):=aD;have i1:(j:Int)<(n:Int):=aD;injection hA with hA;injection hA with zH yX;subst zH yX;simp only[rL] at mJ zgC;clear eB G0 eM sO Fg Gr mK h3;cases hu:qW (rs.take j) l
     .rw[hu] at HU
      cases hq:(d.l==l)
      .have Ez:=aC (show qW (rs.take (j+1)) l=false by rw[HU.o,hq];rfl)
       go_wp2
       go_round
       case rel=>exact⟨j+1,aD,by rw[Ez.o],pT⟩
       case measure=>simp[intOf];omega
      .cases hd:(d.e.toList==[111,112,101,110])
       .have Ez:=aC (show qW (rs.take (j+1)) l=false by rw[HU.o,hq];unfold eA;rw[hd];rfl)
        go_wp2
        go_round
        case rel=>exact⟨j+1,aD,by rw[Ez.o],pT⟩
        case measure=>simp[intOf];omega
       .have Ez:=aC (show qW (rs.take (j+1)) l=true by rw[HU.o,hq];unfold eA;rw[hd];rfl)
        go_wp2
        go_round
        case rel=>exact⟨j+1,aD,by rw[Ez.o],pT⟩
        case measure=>simp[intOf];omega
     .rw[hu] at HU
      have Ez:=aC (show qW (rs.take (j+1)) l=true by rw[HU.o];rfl);clear mJ zgC;go_wp2
      go_round
      case rel=>exact⟨j+1,aD,by rw[Ez.o],pT⟩
      case measure=>simp[intOf];omega
    .have e:j=n:=aD
     subst e;have HT:=aC (show rs.take j=rs by rw[yR (by rw[zIP.o];exact aZ _)]);rw[HT.o];clear G0;obtain⟨u,hu⟩:=aU (qW rs l);rw[<-hu] at zeD⊢;clear hu;cases u
     .have Ez:=aC (show xR rs (k+1)=xR rs k++[l] by rw[zeD.o];rfl)
      obtain⟨fL,jJ,eE,kZ⟩:=HI.o;have HH:=aC fL;have zgr:=HZ.o;clear fL
      go_wp2_with (at_builtin;refine zwm _ rfl (.tmp 44) (.tmp 46) 52 rfl (gb+1) 3 i0 (.int .i64 0) 1 8 Tryd.underlying52 HH.o jJ eE kZ rfl aH (.slice (some ⟨g,0,none⟩) L cl) L (jN (xR rs k)) rfl (Af Tc.o ?c1) aQ ⟨_,0,none⟩ 1 1 [.int .i64 l] rfl rfl ?c2 Me ?c5 ?c6 ?c7 ?_;(case c1=>exact λb hb=>tL _ _ b hb);(case c2=>exact Em (cs:=#[.int .i64 l]) (mX _ _ aQ));(case c5=>unfold maxLen;omega);(case c6=>omega);(case c7=>(simp;omega));intro g1 c1 w1 sM rA B1;have Av:=aC sM;have sG:=aC B1;clear sM rA B1)
      go_roundw
      case rel=>
       refine⟨k+1,g1,L+1,c1,aD,by rw[zdQ.o];push_cast;rfl,by rw[Ez.o,HL.o];simp,rfl,?_,?_⟩
       .have b1:=HB.o
        exact(b1.alloc (by have:=HB.o.size;have:=HZ.o;omega) _).trans sG.o
       .rw[Ez.o,zFS];exact Av.o
      case measure=>have:=zdQ.o;simp[intOf];omega
     .have Ez:=aC (show xR rs (k+1)=xR rs k by rw[zeD.o];simp)
      go_wp2;go_roundw
      case rel=>exact⟨k+1,g,L,cl,aD,by rw[zdQ.o];push_cast;rfl,by rw[Ez.o];exact HL.o,rfl,HB.o,by rw[Ez.o];exact Tc.o⟩
      case measure=>have:=zdQ.o;simp[intOf];omega
  .have e:k=m:=aD
   subst e;clear G0;go_wp2;go_ret;refine⟨_,rfl,g,cl,by rw[HF.o,<-HL.o];rfl,?_,zaW.o.trans (HB.o.mono (by have:=fK.o;omega))⟩;rw[HF.o,<-HL.o];obtain⟨h1,h2⟩:=Tc.o;refine⟨h1,h2.imp id λ⟨b,cap,cur,e1,e2,e3⟩=>⟨b,cap,cur,e1,by have:=fK.o;omega,e3⟩⟩
variable {xs:List aF}{s:Nat}
theorem cG.takeS {g:Nat}(h:cG w lo hi s (some ⟨g,0,none⟩) n c xs)(hk:k<=n):cG w lo hi s (some ⟨g,0,none⟩) k c (xs.take (k*s)):=by
 refine⟨by rw[rJ,h.len];exact Nat.min_eq_left (zT _ hk),eP hk h.le,h.cap,λh0=>?_⟩;obtain⟨b,off,e,h1,h2,h3,h4⟩:=h.at_ aD;refine⟨b,off,e,h1,h2,h3,λj v hv=>h4 j v ?_⟩;rw[List.getElem?_take] at hv;split at hv
 .exact hv
 .cases hv
theorem cG.dropS {g:Nat}(h:cG w lo hi s (some ⟨g,0,none⟩) n c xs)(hk:k<=n):cG w lo hi s (some ⟨g,k*s,none⟩) (n-k) (c-k) (xs.drop (k*s)):=by
 refine⟨by rw[xS,h.len,Nat.sub_mul],by have:=h.le;omega,by have:=h.cap;omega,λh0=>?_⟩;obtain⟨b,off,e,h1,h2,h3,h4⟩:=h.at_ aD;injection e with e;injection e with e1 e2;subst e1 e2;refine⟨g,k*s,rfl,h1,h2,h3,λj v hv=>?_⟩;rw[List.getElem?_drop] at hv;have:=h4 (k*s+j) v hv
 rwa [rL] at this
theorem cG.dropI {g:Nat}(h:cG w lo hi s (some ⟨g,0,none⟩) n c xs)(hk:k<=n):cG w lo hi s (if c=k then some ⟨g,0,none⟩ else some ⟨g,k*s,none⟩) (n-k) (c-k) (xs.drop (k*s)):=by
 have d:=h.dropS hk;by_cases e:c=k
 .rw[if_pos e]
  exact⟨d.len,d.le,d.cap,λh0=>by have:=h.le;omega⟩
 .rw[if_neg e];exact d
theorem zvc (xs:List bJ)(k:Nat):(bF xs).take (k*2)=bF (xs.take k):=by
 induction xs generalizing k with
 |nil=>simp[bF]
 |cons x xs ih=>
  cases k with
  |zero=>simp[bF]
  |succ k=>
   have e:(k+1)*2=k*2+1+1:=aD;rw[e];simp only[bF,zaw,bJ.cells,Qt,zdY,List.take_succ_cons];have:=ih k;unfold bF at this;rw[this]
theorem zok (xs:List bJ)(k:Nat):(bF xs).drop (k*2)=bF (xs.drop k):=by
 induction xs generalizing k with
 |nil=>simp[bF]
 |cons x xs ih=>
  cases k with
  |zero=>simp[bF]
  |succ k=>
   have e:(k+1)*2=k*2+1+1:=aD;rw[e];simp only[bF,zaw,bJ.cells,Qt,zdY,List.drop_succ_cons];have:=ih k;unfold bF at this;rw[this]
theorem zuE (xs ys:List bJ):bF (xs++ys)=bF xs++bF ys:=by simp[bF]
theorem U0 (xs:List bJ):∀u∈bF xs,u.oneCell'=true:=by
 intro u hu;obtain⟨d,_,hd⟩:=List.mem_flatMap.1 hu;simp only[bJ.cells,iX,List.not_mem_nil,or_false] at hd;rcases hd with rfl|rfl<;>rfl
theorem zsw {xs:List bJ}{x:bJ}(hk:k<=xs.length)(h:∀j,j<k->∀b,xs[j]? =some b->x.p<=b.p)(hn:∀b,xs[k]? =some b->¬x.p<=b.p):sV xs x=xs.take k++x::xs.drop k:=by
 unfold sV
 induction xs generalizing k with
 |nil=>simp
 |cons y ys ih=>
  cases k with
  |zero=>
   have:=hn y rfl;simp[zbx,zsV,this]
  |succ k=>
   have hy:=h 0 aD y rfl;have:=ih (k:=k) (by simpa using hk) (λj hj b hb=>h (j+1) aD b zgK) (λb hb=>hn b zgK);simp[zbx,zsV,hy,this]
def zaF {W:aE}(h:W.cell? a1=some v1/\W.cell? a2=some v2/\bU W0.heap.size W0 W):bU W0.heap.size W0 W:=h.2.2
variable {u:aF}
def zvS {a b:bO}(h:w.cell? a=some u)(k:w.cell? b=some v):w.cell? a=some u/\w.cell? b=some v:=⟨h,k⟩
theorem zx9 (lo hi n c g:Nat)(xs:List bJ)(x:bJ)(w:aE)(h:cG w lo hi 2 (some ⟨g,0,none⟩) n c (bF xs))(hn:n<=100000):
 iE aK 56 #[.slice (some ⟨g,0,none⟩) n c,.agg #[.int .i64 x.c,.int .i64 x.p]] w λe w'=>∃v,e=.returned v/\zlL 79 2 w (sV xs x).length (bF (sV xs x)) v w':=by
 have hl:=aC h.callsLen;have zuR:=aC h.le;obtain⟨i0,fL,jJ,eE,kZ⟩:=y3 zex;have HI:=aC (And.intro fL (And.intro jJ (And.intro eE kZ)));clear fL jJ eE kZ;obtain⟨gb,eK⟩:=aU w.heap.size;have fK:=aC eK;obtain⟨O,hO⟩:=aU (.cells #[.int .i64 x.c,.int .i64 x.p] 79:sY);have kW:(w.alloc O).heap[gb]? =some (.cells #[.int .i64 x.c,.int .i64 x.p] 79):=by rw[hO,eK];exact lO _ _
 have Cc:=aC kW;have zaW:=aC (dO (eR w.heap.size w) O);have HO:=aC hO;clear eK hO kW
 go_enter Tryd.func56,Tryd.ntmps56
 go_wp2_with fail
 rw[<-HO.o,<-fK.o]
 go_loopw [5] (λi wr=>∃k:Nat,k<=n/\i=.int .i64 k/\bU (w.alloc O).heap.size (w.alloc O) wr/\∀j,j<k->∀b,xs[j]? =some b->x.p<=b.p) (λi _=>n-(intOf i).toNat)
 case atStart=>exact⟨0,lB _,rfl,eR _ _,λj hj=>absurd hj aD⟩
 case round=>
  obtain⟨k,hk,rfl,B,fP⟩:=hrel;have HC:=aC fP;have kg:=(iS B Cc.o).1;have zg:=(iS B Cc.o).2;have e0:=aJ kg 0;have e1:=aJ kg 1;have BW:=zaW.o.trans (B.mono zaW.o.size);have hs:=h.below BW;have zAv:(0:Int)<=(k:Int):=aD;have Js:=aC BW;have HB:=aC B;clear fP kg BW B;by_cases aP:k<n
  .obtain⟨b,off,d,hA,_,_,h3,eB,eM,mJ⟩:=hs.callsAt aP
   injection hA with hA;injection hA with zH yX;subst zH yX;simp only[rL] at eM mJ;have HX:=aC eB;have i1:(k:Int)<(n:Int):=aD;by_cases hp:x.p<=d.p
   .have HP:=aC hp
    have zBU:decide (x.p<=d.p)=true:=decide_eq_true hp;clear eB h hs h3 eM hp
    go_wp2_with fail
    go_quiet (fail)
    go_wp2;go_roundw
    case rel=>exact⟨k+1,aD,pT,⟨HB.o.os,HB.o.tape,HB.o.output,HB.o.size,HB.o.block⟩,λj hj b hb=>by
     by_cases e:j=k
     .subst e;rw[HX.o] at hb;injection hb with hb;exact hb▸HP.o
     .exact HC.o j aD b hb⟩
    case measure=>simp[intOf];omega
   .have HQ:=aC (zsw (x:=x) (k:=k) (by rw[hl.o];exact hk) HC.o (λb hb=>by rw[eB] at hb;injection hb with hb;exact hb▸hp))
    have zBU:decide (x.p<=d.p)=false:=decide_eq_false hp;clear eB h3 eM hp
    go_wp2_with fail
    go_quiet (fail)
    go_wp2_with fail
    obtain⟨wq,qR⟩:=aU (wr.drewN nq);rw[<-qR];replace hs:cG wq lo hi 2 (some ⟨g,0,none⟩) n c (bF xs):=by rw[qR];exact⟨hs.len,hs.le,hs.cap,hs.at_⟩
    replace e0:wq.cell? ⟨gb,0,none⟩=some (.int .i64 x.c):=by rw[qR];exact e0
    replace e1:wq.cell? ⟨gb,1,none⟩=some (.int .i64 x.p):=by rw[qR];exact e1
    replace zg:gb<wq.heap.size:=by rw[qR];exact zg
    have zad:=aC (show bU w.heap.size w wq by rw[qR];exact⟨Js.o.os,Js.o.tape,Js.o.output,Js.o.size,Js.o.block⟩);have zDG:=aC (show wr.heap.size<=wq.heap.size by rw[qR];exact aZ _);clear qR;have HN:=aC (aZ wq.heap.size);have D7:=aC (zvc xs k▸hs.takeS hk);have Qr:=aC (zok xs k▸hs.dropI hk);have zr4:=aC zg;obtain⟨fL,jJ,eE,kZ⟩:=HI.o;have HH:=aC fL;have mQ:=zuR.o;have zaq:=aC (zvS e0 e1);have k1:(k:Int)<=(n:Int):=aD;have k2:(n:Int)<=(c:Int):=aD;have k3:(k:Int)<=(c:Int):=aD;clear fL hs h
    go_region_held3 (λW=>W.cell? ⟨gb,0,none⟩=some (.int .i64 x.c)/\W.cell? ⟨gb,1,none⟩=some (.int .i64 x.p)/\bU wq.heap.size wq W)
     ((refine ztM zge zge zaq.o.1 zaq.o.2 ?_;(repeat' (first|with_reducible assumption|with_reducible exact zaF Ue|with_reducible exact eR _ _|with_reducible apply dO|with_reducible apply zbw));done))
     (first
      |(refine zfS _ rfl (.tmp 22) (.tmp 25) 37 rfl wq.heap.size 79 i0 (.agg #[.int .i64 0,.int .i64 0]) 2 16 Je HH.o jJ eE kZ rfl aH _ 0 0 [] rfl (Oh ?c1 ?c2) (some ⟨g,0,none⟩) k c _ _ (bF (xs.take k)) rfl (D7.o.below ?c3) (U0 _) ?c5 ?c6 ?c7 ?_;(case c1=>first|omega|(simp;done)|(simp;omega));(case c2=>((try with_reducible apply Kl);(first|with_reducible assumption|(with_reducible refine mX _ _ ?_;simp)|(with_reducible refine dF ?_ _;first|with_reducible assumption|(with_reducible refine mX _ _ ?_;simp))|(with_reducible refine dF ?_ _;with_reducible refine dF ?_ _;first|with_reducible assumption|(with_reducible refine mX _ _ ?_;simp))|(with_reducible refine dF ?_ _;with_reducible refine dF ?_ _;with_reducible refine dF ?_ _;first|with_reducible assumption|(with_reducible refine mX _ _ ?_;simp)))));(case c3=>(repeat' (first|with_reducible assumption|with_reducible exact zaF Ue|with_reducible exact eR _ _|with_reducible apply dO|with_reducible apply zbw)));(case c5=>unfold maxLen;omega);(case c6=>omega);(case c7=>first|omega|(simp;done)|(simp;omega));intro g1 zl4 w9 sM rA B1;rw[rL];simp only[rL,zdY] at sM;have Av:=aC sM;have r8:=aC rA;have BW:bU wq.heap.size wq w9:=bU.trans zu8 B1;have z9:=BW.size;clear sM rA B1)
      |(refine zqY _ rfl (.tmp 26) (.tmp 28) 37 rfl wq.heap.size 79 i0 (.agg #[.int .i64 0,.int .i64 0]) 2 16 Je HH.o jJ eE kZ rfl aH (.slice (some ⟨g1,0,none⟩) k zl4) k (bF (xs.take k)) rfl ?c1 aQ ⟨_,0,none⟩ 1 1 [.int .i64 x.c,.int .i64 x.p] rfl rfl (Em (cs:=#[.int .i64 x.c,.int .i64 x.p]) (t:=79) (fr:=(0,0)) ?c2) (by simp[zr2]) ?c5 ?c6 ?c7 ?_;(case c1=>first|exact Av.o|exact Af Av.o (λb hb=>tL _ _ b hb));(case c2=>first|exact lO _ _|exact(r8.o.block _ zfi zrZ).trans (by((try with_reducible apply Kl);(first|with_reducible assumption|(with_reducible refine mX _ _ ?_;simp)|(with_reducible refine dF ?_ _;first|with_reducible assumption|(with_reducible refine mX _ _ ?_;simp))|(with_reducible refine dF ?_ _;with_reducible refine dF ?_ _;first|with_reducible assumption|(with_reducible refine mX _ _ ?_;simp))|(with_reducible refine dF ?_ _;with_reducible refine dF ?_ _;with_reducible refine dF ?_ _;first|with_reducible assumption|(with_reducible refine mX _ _ ?_;simp))))));(case c5=>unfold maxLen;omega);(case c6=>omega);(case c7=>first|omega|(simp;done)|(simp;omega));intro g2 zg7 uE zbz zjJ B2;have zi4:=aC zbz;have Tm:bU wq.heap.size wq uE:=bU.trans (by first|exact BW|exact dO BW _) B2;have zAt:=Tm.size;clear zbz zjJ B2)
      |(refine zfS _ rfl (.tmp 29) (.tmp 32) 37 rfl wq.heap.size 79 i0 (.agg #[.int .i64 0,.int .i64 0]) 2 16 Je HH.o jJ eE kZ rfl aH g2 (k+1) zg7 (bF (xs.take k)++[.int .i64 x.c,.int .i64 x.p]) rfl zi4.o (if c=k then some ⟨g,0,none⟩ else some ⟨g,k*2,none⟩) (n-k) (c-k) _ _ (bF (xs.drop k)) rfl (Qr.o.below Tm) (U0 _) ?c5 ?c6 ?c7 ?_;(case c5=>unfold maxLen;omega);(case c6=>omega);(case c7=>first|omega|(simp;done)|(simp;omega));intro g3 zjW y9 Zd zlk B3;have ziO:=aC Zd;have zav:bU wq.heap.size wq y9:=Tm.trans B3;have zHo:=zav.size;clear Zd zlk B3))
    all_goals go_wp2_with fail
    all_goals go_ret
    all_goals
     have zgr:=zad.o.size;have eQ:(sV xs x).length=k+1+(n-k):=by
      rw[HQ.o,gJ,rJ,pG,xS,hl.o];omega
     refine⟨_,rfl,g3,zjW,?_,?_,zad.o.trans (zav.mono zgr)⟩
     .rw[eQ];rfl
     .obtain⟨h1,h2⟩:=ziO.o
      have e:=eQ;have e2:bF (sV xs x)=bF (xs.take k)++[.int .i64 x.c,.int .i64 x.p]++bF (xs.drop k):=by rw[HQ.o,zuE];simp[bF,bJ.cells]
      rw[e,e2];exact⟨h1,h2.imp id λ⟨b,cap,cur,e1,e2,e3⟩=>⟨b,cap,cur,e1,aD,e3⟩⟩
  .have HQ:=aC (zsw (x:=x) (k:=k) (by rw[hl.o];exact hk) HC.o (λb hb=>by rw[Gk (by rw[hl.o];omega)] at hb;cases hb))
   have nE:decide ((k:Int)<(n:Int))=false:=decide_eq_false aD
   go_wp2_with fail
   go_quiet (fail)
   go_wp2_with fail
   obtain⟨wq,qR⟩:=aU (wr.drewN nq);rw[<-qR];replace hs:cG wq lo hi 2 (some ⟨g,0,none⟩) n c (bF xs):=by rw[qR];exact⟨hs.len,hs.le,hs.cap,hs.at_⟩
   replace e0:wq.cell? ⟨gb,0,none⟩=some (.int .i64 x.c):=by rw[qR];exact e0
   replace e1:wq.cell? ⟨gb,1,none⟩=some (.int .i64 x.p):=by rw[qR];exact e1
   replace zg:gb<wq.heap.size:=by rw[qR];exact zg
   have zad:=aC (show bU w.heap.size w wq by rw[qR];exact⟨Js.o.os,Js.o.tape,Js.o.output,Js.o.size,Js.o.block⟩);have zDG:=aC (show wr.heap.size<=wq.heap.size by rw[qR];exact aZ _);clear qR;have HN:=aC (aZ wq.heap.size);have D7:=aC (zvc xs k▸hs.takeS hk);have Qr:=aC (zok xs k▸hs.dropI hk);have zr4:=aC zg;obtain⟨fL,jJ,eE,kZ⟩:=HI.o;have HH:=aC fL;have mQ:=zuR.o;have zaq:=aC (zvS e0 e1);have k1:(k:Int)<=(n:Int):=aD;have k2:(n:Int)<=(c:Int):=aD;have k3:(k:Int)<=(c:Int):=aD;clear fL hs h
   go_region_held3 (λW=>W.cell? ⟨gb,0,none⟩=some (.int .i64 x.c)/\W.cell? ⟨gb,1,none⟩=some (.int .i64 x.p)/\bU wq.heap.size wq W)
    ((refine ztM zge zge zaq.o.1 zaq.o.2 ?_;(repeat' (first|with_reducible assumption|with_reducible exact zaF Ue|with_reducible exact eR _ _|with_reducible apply dO|with_reducible apply zbw));done))
    (first
     |(refine zfS _ rfl (.tmp 22) (.tmp 25) 37 rfl wq.heap.size 79 i0 (.agg #[.int .i64 0,.int .i64 0]) 2 16 Je HH.o jJ eE kZ rfl aH _ 0 0 [] rfl (Oh ?c1 ?c2) (some ⟨g,0,none⟩) k c _ _ (bF (xs.take k)) rfl (D7.o.below ?c3) (U0 _) ?c5 ?c6 ?c7 ?_;(case c1=>first|omega|(simp;done)|(simp;omega));(case c2=>((try with_reducible apply Kl);(first|with_reducible assumption|(with_reducible refine mX _ _ ?_;simp)|(with_reducible refine dF ?_ _;first|with_reducible assumption|(with_reducible refine mX _ _ ?_;simp))|(with_reducible refine dF ?_ _;with_reducible refine dF ?_ _;first|with_reducible assumption|(with_reducible refine mX _ _ ?_;simp))|(with_reducible refine dF ?_ _;with_reducible refine dF ?_ _;with_reducible refine dF ?_ _;first|with_reducible assumption|(with_reducible refine mX _ _ ?_;simp)))));(case c3=>(repeat' (first|with_reducible assumption|with_reducible exact zaF Ue|with_reducible exact eR _ _|with_reducible apply dO|with_reducible apply zbw)));(case c5=>unfold maxLen;omega);(case c6=>omega);(case c7=>first|omega|(simp;done)|(simp;omega));intro g1 zl4 w9 sM rA B1;rw[rL];simp only[rL,zdY] at sM;have Av:=aC sM;have r8:=aC rA;have BW:bU wq.heap.size wq w9:=bU.trans zu8 B1;have z9:=BW.size;clear sM rA B1)
     |(refine zqY _ rfl (.tmp 26) (.tmp 28) 37 rfl wq.heap.size 79 i0 (.agg #[.int .i64 0,.int .i64 0]) 2 16 Je HH.o jJ eE kZ rfl aH (.slice (some ⟨g1,0,none⟩) k zl4) k (bF (xs.take k)) rfl ?c1 aQ ⟨_,0,none⟩ 1 1 [.int .i64 x.c,.int .i64 x.p] rfl rfl (Em (cs:=#[.int .i64 x.c,.int .i64 x.p]) (t:=79) (fr:=(0,0)) ?c2) (by simp[zr2]) ?c5 ?c6 ?c7 ?_;(case c1=>first|exact Av.o|exact Af Av.o (λb hb=>tL _ _ b hb));(case c2=>first|exact lO _ _|exact(r8.o.block _ zfi zrZ).trans (by((try with_reducible apply Kl);(first|with_reducible assumption|(with_reducible refine mX _ _ ?_;simp)|(with_reducible refine dF ?_ _;first|with_reducible assumption|(with_reducible refine mX _ _ ?_;simp))|(with_reducible refine dF ?_ _;with_reducible refine dF ?_ _;first|with_reducible assumption|(with_reducible refine mX _ _ ?_;simp))|(with_reducible refine dF ?_ _;with_reducible refine dF ?_ _;with_reducible refine dF ?_ _;first|with_reducible assumption|(with_reducible refine mX _ _ ?_;simp))))));(case c5=>unfold maxLen;omega);(case c6=>omega);(case c7=>first|omega|(simp;done)|(simp;omega));intro g2 zg7 uE zbz zjJ B2;have zi4:=aC zbz;have Tm:bU wq.heap.size wq uE:=bU.trans (by first|exact BW|exact dO BW _) B2;have zAt:=Tm.size;clear zbz zjJ B2)
     |(refine zfS _ rfl (.tmp 29) (.tmp 32) 37 rfl wq.heap.size 79 i0 (.agg #[.int .i64 0,.int .i64 0]) 2 16 Je HH.o jJ eE kZ rfl aH g2 (k+1) zg7 (bF (xs.take k)++[.int .i64 x.c,.int .i64 x.p]) rfl zi4.o (if c=k then some ⟨g,0,none⟩ else some ⟨g,k*2,none⟩) (n-k) (c-k) _ _ (bF (xs.drop k)) rfl (Qr.o.below Tm) (U0 _) ?c5 ?c6 ?c7 ?_;(case c5=>unfold maxLen;omega);(case c6=>omega);(case c7=>first|omega|(simp;done)|(simp;omega));intro g3 zjW y9 Zd zlk B3;have ziO:=aC Zd;have zav:bU wq.heap.size wq y9:=Tm.trans B3;have zHo:=zav.size;clear Zd zlk B3))
   all_goals go_wp2_with fail
   all_goals go_ret
   all_goals
    have zgr:=zad.o.size;have eQ:(sV xs x).length=k+1+(n-k):=by
     rw[HQ.o,gJ,rJ,pG,xS,hl.o];omega
    refine⟨_,rfl,g3,zjW,?_,?_,zad.o.trans (zav.mono zgr)⟩
    .rw[eQ];rfl
    .obtain⟨h1,h2⟩:=ziO.o
     have e:=eQ;have e2:bF (sV xs x)=bF (xs.take k)++[.int .i64 x.c,.int .i64 x.p]++bF (xs.drop k):=by rw[HQ.o,zuE];simp[bF,bJ.cells]
     rw[e,e2];exact⟨h1,h2.imp id λ⟨b,cap,cur,e1,e2,e3⟩=>⟨b,cap,cur,e1,aD,e3⟩⟩
theorem zgF (l:List α)(i:Nat)(f g:α->α):(l.modify i f).modify i g=l.modify i (λx=>g (f x)):=by
 apply X5;intro j;rw[zG,zG,zG];by_cases e:i=j
 .simp[e,Function.comp_def]
 .simp[e]
variable {v:fD}{r:b6}
theorem dR.setR {j:Nat}(f:bR->bR)(h:dR w lo v r)(hd:r.recs[i]? =some d)(hj:j<7)(hs:∀k,k<7->k≠j->(f d).cells[k]? =d.cells[k]?)(hv:(f d).cells[j]? =some u):
 dR (w.setCell ⟨v.gR,i*7+j,none⟩ u) lo v {r with recs:=r.recs.modify i f}/\n5 v w (w.setCell ⟨v.gR,i*7+j,none⟩ u):=by
 obtain⟨h1,hg⟩:=h.rc.stored (i*7+j) u;rw[zwP hd hj hs hv] at h1;have a:=h.ap;refine⟨⟨?_,h.wt.kept hg (.inr F5),h.bk.kept hg (.inr F5),h.lg.kept hg (.inr F5),a⟩,⟨hg.os,hg.tape,hg.output,hg.size,λb hb h1 _=>hg.block b hb (λe=>h1 (by injection e))⟩⟩;simp only[fD.sR,Gj];exact h1
theorem dR.recAt (h:dR w lo v r)(hd:r.recs[i]? =some d):
 w.cell? ⟨v.gR,i*7,none⟩=some (.int .i64 d.c)/\w.cell? ⟨v.gR,i*7+1,none⟩=some (.int .i64 d.l)/\w.cell? ⟨v.gR,i*7+2,none⟩=some (.int .i64 d.o)/\w.cell? ⟨v.gR,i*7+3,none⟩=some (.int .i64 d.f)/\w.cell? ⟨v.gR,i*7+4,none⟩=some (.int .i64 d.h)/\w.cell? ⟨v.gR,i*7+5,none⟩=some (.int .i64 d.t)/\w.cell? ⟨v.gR,i*7+6,none⟩=some (.string d.e):=by
 have hi:=(jW.1 hd).1;have g:∀j,j<7->w.cell? ⟨v.gR,i*7+j,none⟩=d.cells[j]? :=λj hj=>by
  rw[h.rc.cellAt (i*7+j) aD];have:=H4 bR.cells (s:=7) (λ_=>rfl) r.recs i j hj;unfold recs;rw[this,hd];rfl
 exact⟨g 0 aH,g 1 aH,g 2 aH,g 3 aH,g 4 aH,g 5 aH,g 6 aH⟩
variable {b:Nat}{w':aE}
def n5.blk {o:sY}(h:n5 v w w')(hb:w.heap[b]? =some o)(h1:b≠v.gR)(h2:b≠v.gB):w'.heap[b]? =some o:=(h.block b (kU hb) h1 h2).trans hb
theorem Qe (h:rs[i]? =some d):Fu rs i=d.c:=by unfold Fu;rw[h]
theorem Bq {E:Nat}{base n g c:Nat}(h:w.ownsRow base E s (.slice (some ⟨g,0,none⟩) n c) n xs)(hb:w'.heap[g]? =w.heap[g]?):w'.ownsRow base E s (.slice (some ⟨g,0,none⟩) n c) n xs:=by
 obtain⟨hl,h|⟨b,cap,cur,e,h1,hg,h2⟩⟩:=h
 .cases h.1
 .injection e with e
  injection e with e;injection e with e;subst e;exact⟨hl,.inr ⟨g,cap,cur,by simp_all,h1,hb.trans hg,h2⟩⟩
def zmw {base base':Nat}{e:aM}{size:Nat}{v:aF}(h:w.ownsRow base e size v n xs)(hb:base'<=base):w.ownsRow base' e size v n xs:=
 ⟨h.1,h.2.imp id λ⟨g,cap,cur,h1,h2,h3⟩=>⟨g,cap,cur,h1,eP hb h2,h3⟩⟩
theorem zCn (v:fD)(r:b6)(i g cp:Nat)(e:ByteArray):(fO v r).setIfInBounds 5 (.slice (some ⟨g,0,none⟩) (dQ r.wait (Fu r.recs i)).length cp)=fO {v with gW:=g,cW:=cp} (kT r i e):=by
 have h:(kT r i e).recs.length=r.recs.length:=Gj _ _ _;simp only[fO,fD.sR,h];rfl
def gI (w:aE)(b:Nat)(a0 a1 a2 a3 a4 a5 a6 a7:aF):World:=(((((((w.setCell ⟨b,0,none⟩ a0).setCell ⟨b,1,none⟩ a1).setCell ⟨b,2,none⟩ a2).setCell ⟨b,3,none⟩ a3).setCell ⟨b,4,none⟩ a4).setCell ⟨b,5,none⟩ a5).setCell ⟨b,6,none⟩ a6).setCell ⟨b,7,none⟩ a7
variable {a1 a2 a0 a3 a4 a5 a6 a7:aF}{T:aM}
theorem za5 {z0 z1 z2 z3 z4 z5 z6 z7:aF}(h:w.heap[b]? =some (.cells #[z0,z1,z2,z3,z4,z5,z6,z7] T)):(gI w b a0 a1 a2 a3 a4 a5 a6 a7).heap[b]? =some (.cells #[a0,a1,a2,a3,a4,a5,a6,a7] T):=by
 unfold gI;rw[oZ (oZ (oZ (oZ (oZ (oZ (oZ (oZ h a0) a1) a2) a3) a4) a5) a6) a7];simp only[List.setIfInBounds_toArray,List.set_cons_zero,List.set_cons_succ]
theorem F9 {x:Nat}(h:x≠b):(gI w b a0 a1 a2 a3 a4 a5 a6 a7).heap[x]? =w.heap[x]? :=by
 unfold gI;rw[dZ _ _ _ x h,dZ _ _ _ x h,dZ _ _ _ x h,dZ _ _ _ x h,dZ _ _ _ x h,dZ _ _ _ x h,dZ _ _ _ x h,dZ _ _ _ x h]
theorem zkD (w:aE)(b:Nat)(a0 a1 a2 a3 a4 a5 a6 a7:aF):(gI w b a0 a1 a2 a3 a4 a5 a6 a7).heap.size=w.heap.size:=by
 unfold gI;simp only[sE]
def zdh (w:aE)(b:Nat)(a0 a1 a2 a3 a4 a5 a6 a7:aF):Kt b (b+1) w (gI w b a0 a1 a2 a3 a4 a5 a6 a7):=
 ((((((((Kt.refl b (b+1) w).setCell (p:=⟨b,0,none⟩) (aZ _) (wL _) a0).setCell (p:=⟨b,1,none⟩) (aZ _) (wL _) a1).setCell (p:=⟨b,2,none⟩) (aZ _) (wL _) a2).setCell (p:=⟨b,3,none⟩) (aZ _) (wL _) a3).setCell (p:=⟨b,4,none⟩) (aZ _) (wL _) a4).setCell (p:=⟨b,5,none⟩) (aZ _) (wL _) a5).setCell (p:=⟨b,6,none⟩) (aZ _) (wL _) a6).setCell (p:=⟨b,7,none⟩) (aZ _) (wL _) a7
def dR.set8 (h:dR w lo v r)(hb:b≠v.gR/\b≠v.gW/\b≠v.gB/\b≠v.gL):dR (gI w b a0 a1 a2 a3 a4 a5 a6 a7) lo v r:=
 ⟨Bq h.rc (F9 (Ne.symm hb.1)),Bq h.wt (F9 (Ne.symm hb.2.1)),Bq h.bk (F9 (Ne.symm hb.2.2.1)),Bq h.lg (F9 (Ne.symm hb.2.2.2)),h.ap⟩
def n5.set8 {w0:aE}(h:n5 v w0 w)(hb:w0.heap.size<=b):n5 v w0 (gI w b a0 a1 a2 a3 a4 a5 a6 a7):=
 have c:=zdh w b a0 a1 a2 a3 a4 a5 a6 a7
 ⟨c.os.trans h.os,c.tape.trans h.tape,c.output.trans h.output,eP h.size c.size,λx hx h1 h2=>(F9 aD).trans (h.block x hx h1 h2)⟩
abbrev jO:Obj:=.cells #[.int .i64 0,.int .i64 0,.int .i64 0,.int .i64 0,.slice none 0 0,.slice none 0 0,.slice none 0 0,.slice none 0 0] 40
theorem ziu (lo i:Nat)(v:fD)(r:b6)(d:bR)(e:ByteArray)(w:aE)(h:dR w lo v r)(hd:r.recs[i]? =some d)(hn:r.recs.length<=100000)(Kf:r.wait.length<=100000)(dY:lo<=w.heap.size):
 iE aK 60 #[.agg (fO v r),.int .i64 (i:Int),.string e] w λx w'=>∃g c,x=.returned (.agg (fO {v with gW:=g,cW:=c} (kT r i e)))/\dR w' lo {v with gW:=g,cW:=c} (kT r i e)/\n5 v w w'/\w.heap.size<=g:=by
 obtain⟨gb,eK⟩:=aU w.heap.size;have hl:=h.lts;have hi:=(jW.1 hd).1;obtain⟨O,hO⟩:=aU (.cells (fO v r) 40:sY);obtain⟨Z,hZ⟩:=aU (jO:sY);have kW:((w.alloc O).alloc Z).heap[gb]? =some (.cells (fO v r) 40):=by rw[hO,eK];exact dF (lO _ _) _
 have n8:((w.alloc O).alloc Z).heap[gb+1]? =some jO:=by rw[<-hZ];exact mX _ _ X9
 have jT:=(h.alloc O).alloc Z;have T1:n5 v w ((w.alloc O).alloc Z):=n5.of_below v (dO (dO (eR _ _) _) _);have Cc:=aC kW;have zbT:=aC n8;have lF:=aC jT;have D7:=aC T1;have HO:=aC hO;have HZ:=aC (show Z=.cells #[.int .i64 0,.int .i64 0,.int .i64 0,.int .i64 0,.slice none 0 0,.slice none 0 0,.slice none 0 0,.slice none 0 0] 40 from hZ);have fK:=aC eK;have HD:=aC hd;clear hO hZ eK kW n8 jT T1 hd h;have i0:(0:Int)<=(i:Int):=aD;have i1:(i:Int)<(r.recs.length:Int):=aD
 go_enter Tryd.func60,Tryd.ntmps60
 go_upto_region 1 with fail
 rw[<-HO.o,<-HZ.o,<-fK.o];obtain⟨W1,dC⟩:=aU ((w.alloc O).alloc Z);have eE:W1.heap.size=gb+2:=by rw[dC,fK.o];simp
 rw[<-dC] at Cc zbT lF D7⊢;have oU:=aC eE;have Kq:gb≠v.gR:=by have:=fK.o;omega
 have y7:gb≠v.gB:=by have:=fK.o;omega
 have Pa:gb+1≠v.gR:=by have:=fK.o;omega
 have zaZ:gb+1≠v.gB:=by have:=fK.o;omega
 clear dC eE;have k:=aJ Cc.o;obtain⟨c0,c1,c2,c3,c4,c5,c6⟩:=lF.o.recAt HD.o;have fz:=λj=>lF.o.rc.frozenAt j;have k3:=k 3;have k4:=k 4;have S1:=lF.o.setR (λd=>{d with t:=r.clk}) HD.o (j:=5) aH zwl rfl;have lZ:=aC S1;clear S1 k
 go_upto_region 2 with fail
 obtain⟨W2,qC⟩:=aU (W1.setCell ⟨v.gR,i*7+5,none⟩ (.int .i64 r.clk));rw[<-qC] at lZ⊢;have Aj:(r.recs.modify i λd=>{d with t:=r.clk})[i]? =some {d with t:=r.clk}:=by rw[zG];simp[HD.o]
 have zcM:=aC Aj;have zo3:=aC (lZ.o.2.blk Cc.o Kq y7);have zI5:=aC (lZ.o.2.blk zbT.o Pa zaZ);clear qC c0 c1 c2 c3 c4 c5 c6 fz k3 k4 Aj;have k4:=aJ zo3.o 4;obtain⟨c0,c1,c2,c3,c4,c5,c6⟩:=lZ.o.1.recAt zcM.o;have fz:=λj=>lZ.o.1.rc.frozenAt j;have S2:=lZ.o.1.setR (λd=>{d with e:=e}) zcM.o (j:=6) aH zoT rfl;rw[zgF] at S2;have rP:=aC S2;clear S2
 go_upto_region 3 with fail
 obtain⟨W3,rE⟩:=aU (W2.setCell ⟨v.gR,i*7+6,none⟩ (.string e));rw[<-rE] at rP⊢;have zre:(r.recs.modify i λd=>{d with t:=r.clk,e:=e})[i]? =some {d with t:=r.clk,e:=e}:=by rw[zG];simp[HD.o]
 have zG3:=aC zre;have Wo:=aC (D7.o.same (lZ.o.2.same rP.o.2));have zbD:=rP.o.2.blk zo3.o Kq y7;have zsQ:=aC (rP.o.2.blk zI5.o Pa zaZ);have O6:=aC (show dR W3 lo v {r with recs:=Ke r i e} from rP.o.1);have zjA:gb+2<=W3.heap.size:=by have:=Wo.o.size;have:=oU.o;have:=lZ.o.2.size;have:=rP.o.2.size;omega
 clear rE c0 c1 c2 c3 c4 c5 c6 fz k4 zre;have k4:=aJ zbD 4;have k5:=aJ zbD 5;have fz:=eL zbD;obtain⟨c0,-,-,-,-,-,-⟩:=rP.o.1.recAt zG3.o;have zFz:=aC zbD;have K6:=O6.o.slcW;have Q5:=aC K6;clear zbD K6
 go_cut [] from 20 to 29 (λwx=>∃g c,wx.heap[gb]? =some (Ew {v with gW:=g,cW:=c} (kT r i e))/\wx.heap[gb+1]? =some jO/\dR wx lo {v with gW:=g,cW:=c} (kT r i e)/\n5 v w wx/\w.heap.size<=g/\gb+1<g)
 case first=>
  go_region_with (go_at_call 59;refine(zdx lo W3.heap.size r.wait.length v.cW (some ⟨v.gW,0,none⟩) r.wait d.c W3.drew (Q5.o.keep (aZ _) (λ_ _ _ _=>rfl)) Kf).mono ?_;rintro x w4 ⟨_,rfl,g,cp,rfl,cP,b4⟩;have k0:=(iS b4 (Kl zFz.o)).1;have k5:=aJ k0 5;have fz:=eL k0;have z4:=kU k0;have zdV:=aC cP;clear cP)
  all_goals
   go_wp2_with fail
   go_meet
   have pK:=Qe HD.o;have O5:=Wo.o.size;have hg:W3.heap.size<=g:=(zdV.o.lt g rfl).1;have zJ:∀b,b<W3.heap.size->b≠gb->(w4.setCell ⟨gb,5,none⟩ (.slice (some ⟨g,0,none⟩) (dQ r.wait d.c).length cp)).heap[b]? =W3.heap[b]? :=λb hb aT=>(dZ w4 _ _ b aT).trans (b4.block b hb);have l3:=O6.o.lts;have eK:=fK.o;refine⟨g,cp,?_,(zJ _ (kU zsQ.o) aD).trans zsQ.o,?_,⟨b4.os.trans Wo.o.os,b4.tape.trans Wo.o.tape,b4.output.trans Wo.o.output,?_,λb hb h1 h2=>(zJ b aD aD).trans (Wo.o.block b hb h1 h2)⟩,aD,aD⟩
   .rw[oZ k0,<-pK]
    rw[zCn v r i g cp e]
   .have a:=O6.o.ap
    have hk:∀b,b<w.heap.size->W3.heap.size<=W3.heap.size:=λ_ _=>aZ _;have row:(w4.setCell ⟨gb,5,none⟩ (.slice (some ⟨g,0,none⟩) (dQ r.wait d.c).length cp)).ownsRow W3.heap.size 79 2 (.slice (some ⟨g,0,none⟩) (dQ r.wait d.c).length cp) (dQ r.wait d.c).length (bF (dQ r.wait d.c)):=Bq zdV.o (dZ w4 _ _ g (by show g≠gb;omega));have zjU:∀{E s n:Nat} {A:Nat} {c:Nat} {xs:List aF},A<gb->W3.ownsRow lo E s (.slice (some ⟨A,0,none⟩) n c) n xs->(w4.setCell ⟨gb,5,none⟩ (.slice (some ⟨g,0,none⟩) (dQ r.wait d.c).length cp)).ownsRow lo E s (.slice (some ⟨A,0,none⟩) n c) n xs:=λ{E s n A c xs} hA h=>Bq h (zJ A (h.lt A rfl).2 aD);have l0:=hl;refine⟨zjU (by show v.gR<gb;omega) O6.o.rc,?_,zjU (by show v.gB<gb;omega) O6.o.bk,zjU (by show v.gL<gb;omega) O6.o.lg,by simp only at*;omega⟩;have:=zmw row (base':=lo) aD;rw[<-pK] at this⊢;exact this
   .rw[sE];have:=b4.size;omega
 case rest=>
  obtain⟨g,c,kb,kr,hR,hT,hg,zBC⟩:=hcut;have zAI:g<gb\/gb+1<g:=.inr zBC;have k:=aJ kb;obtain⟨k0,k1,k2,k3,k4,k5,k6,k7⟩:=eF k;have q:=aJ kr;obtain⟨q0,q1,q2,q3,q4,q5,q6,q7⟩:=eF q;have qf:=eL kr;have HR:=aC hR;have HT:=aC hT;have HG:=aC hg;have jK:=aC kr;clear hR hT hg kb kr k q;go_wp2;have er:=aJ (za5 (a0:=.int .i64 (kT r i e).o.ln) (a1:=.int .i64 (kT r i e).o.op) (a2:=.int .i64 (kT r i e).o.pt) (a3:=.int .i64 (kT r i e).clk) (a4:=.slice (some ⟨v.gR,0,none⟩) (kT r i e).recs.length v.cR) (a5:=.slice (some ⟨g,0,none⟩) (kT r i e).wait.length c) (a6:=.slice (some ⟨v.gB,0,none⟩) (kT r i e).back.length v.cB) (a7:=.slice (some ⟨v.gL,0,none⟩) (kT r i e).log.length v.cL) jK.o);have l:=HR.o.lts;have eK:=fK.o;have zmv:=HG.o;have Ao:=hl;have a:=HR.o.ap;refine bodyPost_ret (v:=.agg (fO {v with gW:=g,cW:=c} (kT r i e))) ?_ rfl ⟨g,c,rfl,HR.o.set8 ?_,HT.o.set8 aD,zmv⟩
  .unfold gI at er
   simp[results,Tryd.results60,go_sem,er]
  .have zko:g<gb\/gb+1<g:=zAI
   simp only;omega
structure gG (w0 w:aE)(lo gb k:Nat)(v0 v:fD)(r:b6):Prop where
 ok:dR w lo v r
 turn:n5 v0 w0 w
 moved:vX gb v0 v
 base:gb=w0.heap.size
 blk:w.heap[gb]? =some (.cells (fO v r) 40)
 size:gb+k<=w.heap.size
 kpos:0<k
 aR:v.gR<gb\/gb+k<=v.gR
 aW:v.gW<gb\/gb+k<=v.gW
 aB:v.gB<gb\/gb+k<=v.gB
 aL:v.gL<gb\/gb+k<=v.gL
 lob:lo<=gb
section
variable {w0 w w':aE}{lo gb k:Nat}{v0 v:fD}{r:b6}
def gG.keep (h:gG w0 w lo gb k v0 v r)(b:bU w.heap.size w w'):gG w0 w' lo gb k v0 v r:=
 ⟨h.ok.below b,h.turn.same (n5.of_below v0 b),h.moved,h.base,(b.block _ (kU h.blk)).trans h.blk,eP h.size b.size,h.kpos,h.aR,h.aW,h.aB,h.aL,h.lob⟩
def gG.alloc (h:gG w0 w lo gb k v0 v r)(o:sY):gG w0 (w.alloc o) lo gb k v0 v r:=h.keep (dO (eR _ _) o)
def gG.drew (h:gG w0 w lo gb k v0 v r):gG w0 w.drew lo gb k v0 v r:=h.keep ⟨rfl,rfl,rfl,aZ _,λ_ _=>rfl⟩
def room_R (v:fD)(r:b6)(g c:Nat)(xs:List bR):(fO v r).setIfInBounds 4 (.slice (some ⟨g,0,none⟩) xs.length c)=fO {v with gR:=g,cR:=c} {r with recs:=xs}:=rfl
def room_W (v:fD)(r:b6)(g c:Nat)(xs:List bJ):(fO v r).setIfInBounds 5 (.slice (some ⟨g,0,none⟩) xs.length c)=fO {v with gW:=g,cW:=c} {r with wait:=xs}:=rfl
def zq5 (v:fD)(r:b6)(g c:Nat)(xs:List bJ):(fO v r).setIfInBounds 6 (.slice (some ⟨g,0,none⟩) xs.length c)=fO {v with gB:=g,cB:=c} {r with back:=xs}:=rfl
def room_L (v:fD)(r:b6)(g c:Nat)(xs:List (List UInt8)):(fO v r).setIfInBounds 7 (.slice (some ⟨g,0,none⟩) xs.length c)=fO {v with gL:=g,cL:=c} {r with log:=xs}:=rfl
theorem y8 {N g:Nat}{o:sY}(hb:w.grownBy w' (some g))(hN:w.heap[N]? =some o)(aT:N≠g):w'.heap[N]? =some o/\N<w'.heap.size:=
 ⟨(hb.block N (kU hN) (by simp;exact aT)).trans hN,lA (kU hN) hb.size⟩
variable {u:aF}
theorem zq4 {row:Nat}{b i:Nat}(hg:w.grownBy w' (some row)){x:Nat}(hx:x<w.heap.size)(h1:x≠row)(h2:x≠b):(w'.setCell ⟨b,i,none⟩ u).heap[x]? =w.heap[x]? :=
 (dZ w' _ _ x h2).trans (hg.block x hx (by simp;exact h1))
def dR.setCell {b i:Nat}(h:dR w lo v r)(hb:b≠v.gR/\b≠v.gW/\b≠v.gB/\b≠v.gL):dR (w.setCell ⟨b,i,none⟩ u) lo v r:=
 ⟨Bq h.rc (dZ w _ _ _ (Ne.symm hb.1)),Bq h.wt (dZ w _ _ _ (Ne.symm hb.2.1)),Bq h.bk (dZ w _ _ _ (Ne.symm hb.2.2.1)),Bq h.lg (dZ w _ _ _ (Ne.symm hb.2.2.2)),h.ap⟩
theorem gG.appB {m g c:Nat}{x:bJ}(h:gG w0 w lo gb k v0 v r)(hg:w.grownBy w' (some v.gB))(ho:w'.ownsRow lo 79 2 (.slice (some ⟨g,0,none⟩) m c) m (bF r.back++x.cells))(hm:m=r.back.length+1)(hw:g=v.gB\/g=w.heap.size):
 gG w0 (w'.setCell ⟨gb,6,none⟩ (.slice (some ⟨g,0,none⟩) m c)) lo gb k v0 {v with gB:=g,cB:=c} {r with back:=r.back++[x]}:=by
 have hk:=h.ok.appB hg ho hm aD;have sz:=h.size;have kp:=h.kpos;have aR:=h.aR;have aW:=h.aW;have aB:=h.aB;have aL:=h.aL;have l:=h.ok.lts;have hs:=hg.size;have Ma:=h.base;have kb:=(y8 hg h.blk aD).1;have za3:g≠gb:=aD;refine⟨hk.setCell (by refine⟨?_,?_,?_,?_⟩<;>(simp only;omega)),?_,⟨h.moved.r,h.moved.w,?_,h.moved.l⟩,h.base,?_,?_,kp,aR,aW,?_,aL,h.lob⟩
 .have t:=h.turn
  have mb:=h.moved.b;refine⟨hg.os.trans t.os,hg.tape.trans t.tape,hg.output.trans t.output,?_,λb hb h1 h2=>?_⟩
  .rw[sE];have:=t.size;omega
  .exact(zq4 hg zfF aD aD).trans (t.block b hb h1 h2)
 .have:=h.moved.b
  simp only;omega
 .rw[oZ kb]
  have e:=zq5 v r g c (r.back++[x]);rw[hm];simp only[gJ,pG,tV] at e;exact congrArg (λa=>some (znI a 40)) e
 .rw[sE];omega
 .simp only;omega
theorem gG.appR {m g c:Nat}{x:bR}(h:gG w0 w lo gb k v0 v r)(hg:w.grownBy w' (some v.gR))(ho:w'.ownsRow lo 107 7 (.slice (some ⟨g,0,none⟩) m c) m (recs r.recs++x.cells))(hm:m=r.recs.length+1)(hw:g=v.gR\/g=w.heap.size):
 gG w0 (w'.setCell ⟨gb,4,none⟩ (.slice (some ⟨g,0,none⟩) m c)) lo gb k v0 {v with gR:=g,cR:=c} {r with recs:=r.recs++[x]}:=by
 have hk:=h.ok.appR hg ho hm aD;have sz:=h.size;have kp:=h.kpos;have aR:=h.aR;have aW:=h.aW;have aB:=h.aB;have aL:=h.aL;have l:=h.ok.lts;have hs:=hg.size;have Ma:=h.base;have kb:=(y8 hg h.blk aD).1;have za3:g≠gb:=aD;refine⟨hk.setCell (by refine⟨?_,?_,?_,?_⟩<;>(simp only;omega)),?_,⟨?_,h.moved.w,h.moved.b,h.moved.l⟩,h.base,?_,?_,kp,?_,aW,aB,aL,h.lob⟩
 .have t:=h.turn
  have mb:=h.moved.r;refine⟨hg.os.trans t.os,hg.tape.trans t.tape,hg.output.trans t.output,?_,λb hb h1 h2=>?_⟩
  .rw[sE];have:=t.size;omega
  .exact(zq4 hg zfF aD aD).trans (t.block b hb h1 h2)
 .have:=h.moved.r
  simp only;omega
 .rw[oZ kb]
  have e:=room_R v r g c (r.recs++[x]);rw[hm];simp only[gJ,pG,tV] at e;exact congrArg (λa=>some (znI a 40)) e
 .rw[sE];omega
 .simp only;omega
variable {xs:List bJ}
theorem gG.setW {g c n:Nat}(h:gG w0 w lo gb k v0 v r)(b:bU n w w')(ho:w'.ownsRow n 79 2 (.slice (some ⟨g,0,none⟩) xs.length c) xs.length (bF xs))(hn:n=w.heap.size):
 gG w0 (w'.setCell ⟨gb,5,none⟩ (.slice (some ⟨g,0,none⟩) xs.length c)) lo gb k v0 {v with gW:=g,cW:=c} {r with wait:=xs}:=by
 subst hn;have hg:w.heap.size<=g:=(ho.lt g rfl).1;have sz:=h.size;have l:=h.ok.lts;have Ma:=h.base;have lob:=h.lob;have hk:=h.ok.newW (w':=w') (λx hx=>b.block x hx) (zmw ho aD) rfl hg;have kp:=h.kpos;have aR:=h.aR;have aW:=h.aW;have aB:=h.aB;have aL:=h.aL;have hs:=b.size;have kb:=(iS b h.blk).1;refine⟨hk.setCell (by refine⟨?_,?_,?_,?_⟩<;>(simp only;omega)),?_,⟨h.moved.r,.inr Jn,h.moved.b,h.moved.l⟩,h.base,?_,?_,kp,aR,.inr Jn,aB,aL,h.lob⟩
 .have t:=h.turn
  refine⟨b.os.trans t.os,b.tape.trans t.tape,b.output.trans t.output,?_,λy hy h1 h2=>?_⟩
  .rw[sE];have:=t.size;omega
  .exact((dZ w' _ _ y ziT).trans (b.block y zfF)).trans (t.block y hy h1 h2)
 .rw[oZ kb]
  rw[room_W v r g c xs]
 .rw[sE];omega
theorem gG.setB {g c n:Nat}(h:gG w0 w lo gb k v0 v r)(b:bU n w w')(ho:w'.ownsRow n 79 2 (.slice (some ⟨g,0,none⟩) xs.length c) xs.length (bF xs))(hn:n=w.heap.size):
 gG w0 (w'.setCell ⟨gb,6,none⟩ (.slice (some ⟨g,0,none⟩) xs.length c)) lo gb k v0 {v with gB:=g,cB:=c} {r with back:=xs}:=by
 subst hn;have hg:w.heap.size<=g:=(ho.lt g rfl).1;have sz:=h.size;have l:=h.ok.lts;have Ma:=h.base;have lob:=h.lob;have hk:=h.ok.newB (w':=w') (λx hx=>b.block x hx) (zmw ho aD) rfl hg;have kp:=h.kpos;have aR:=h.aR;have aW:=h.aW;have aB:=h.aB;have aL:=h.aL;have hs:=b.size;have kb:=(iS b h.blk).1;refine⟨hk.setCell (by refine⟨?_,?_,?_,?_⟩<;>(simp only;omega)),?_,⟨h.moved.r,h.moved.w,.inr Jn,h.moved.l⟩,h.base,?_,?_,kp,aR,aW,.inr Jn,aL,h.lob⟩
 .have t:=h.turn
  refine⟨b.os.trans t.os,b.tape.trans t.tape,b.output.trans t.output,?_,λy hy h1 h2=>?_⟩
  .rw[sE];have:=t.size;omega
  .exact((dZ w' _ _ y ziT).trans (b.block y zfF)).trans (t.block y hy h1 h2)
 .rw[oZ kb]
  rw[zq5 v r g c xs]
 .rw[sE];omega
theorem gG.setR {i j:Nat}{d:bR}(f:bR->bR)(h:gG w0 w lo gb k v0 v r)(hd:r.recs[i]? =some d)(hj:j<7)(hs:∀k,k<7->k≠j->(f d).cells[k]? =d.cells[k]?)(hv:(f d).cells[j]? =some u):
 gG w0 (w.setCell ⟨v.gR,i*7+j,none⟩ u) lo gb k v0 v {r with recs:=r.recs.modify i f}:=by
 obtain⟨h1,h2⟩:=h.ok.setR f hd hj hs hv;have l:=h.ok.lts;have Ma:=h.base;have mr:=h.moved.r;have kp:=h.kpos;have aR:=h.aR;have sz:=h.size;refine⟨h1,?_,h.moved,h.base,?_,by rw[sE];exact h.size,h.kpos,h.aR,h.aW,h.aB,h.aL,h.lob⟩
 .have t:=h.turn
  refine⟨t.os,t.tape,t.output,by rw[sE];exact t.size,λy hy e1 e2=>?_⟩;exact(dZ w _ _ y (by show y≠v.gR;omega)).trans (t.block y hy e1 e2)
 .have e:(w.setCell ⟨v.gR,i*7+j,none⟩ u).heap[gb]? =w.heap[gb]? :=dZ w _ _ gb (by show gb≠v.gR;omega)
  rw[e,h.blk];simp only[fO,fD.sR,Gj]
theorem gG.turned {n:Nat}{v':fD}{r':b6}(h:gG w0 w lo gb k v0 v r)(ho:dR w' lo v' r')(t:n5 v w w')(m:vX n v v')(hn:n=w.heap.size):
 dR w' lo v' r'/\n5 v0 w0 w'/\vX gb v0 v'/\w'.heap[gb]? =some (.cells (fO v r) 40):=by
 have Ma:=h.base;have sz:=h.size;have kp:=h.kpos;have aR:=h.aR;have aB:=h.aB;exact⟨ho,h.turn.trans t h.moved aD,h.moved.trans m aD,t.blk h.blk aD aD⟩
theorem gG.done {b:Nat}{a0 a1 a2 a3 a4 a5 a6 a7:aF}(h:gG w0 w lo gb k v0 v r)(hb:gb<=b/\b<gb+k):dR (gI w b a0 a1 a2 a3 a4 a5 a6 a7) lo v r/\n5 v0 w0 (gI w b a0 a1 a2 a3 a4 a5 a6 a7)/\vX w0.heap.size v0 v:=by
 have aR:=h.aR;have aW:=h.aW;have aB:=h.aB;have aL:=h.aL;have Ma:=h.base;exact⟨h.ok.set8 aD,h.turn.set8 aD,Ma▸h.moved⟩
theorem An {a:bO}{v:aF}(h:w.cell? a=some v)(o:sY):(w.alloc o).cell? a=some v:=(aE.cell?_alloc_some w a o (by rw[h];rfl)).trans h
end
def sJ {z0 z1 z2 z3 z4 z5 z6 z7:aF}(v:fD)(r:b6)(h:w.heap[b]? =some (.cells #[z0,z1,z2,z3,z4,z5,z6,z7] T)):
 (gI w b (.int .i64 r.o.ln) (.int .i64 r.o.op) (.int .i64 r.o.pt) (.int .i64 r.clk) (v.sR r) (v.sW r) (v.sB r) (v.sL r)).heap[b]? =some (.cells #[.int .i64 r.o.ln,.int .i64 r.o.op,.int .i64 r.o.pt,.int .i64 r.clk,v.sR r,v.sW r,v.sB r,v.sL r] T):=za5 h
theorem zd4 (h:dR w lo v r)(dY:lo<=w.heap.size):∃(gb:Nat) (O Z:sY),pP (gb=w.heap.size)/\pP (O=.cells (fO v r) 40)/\pP (Z=.cells #[.int .i64 0,.int .i64 0,.int .i64 0,.int .i64 0,.slice none 0 0,.slice none 0 0,.slice none 0 0,.slice none 0 0] 40)/\
 pP (gG w ((w.alloc O).alloc Z) lo gb 2 v v r)/\pP (((w.alloc O).alloc Z).heap[gb+1]? =some jO)/\pP (((w.alloc O).alloc Z).heap.size=gb+2)/\pP (v.gR<gb/\v.gW<gb/\v.gB<gb/\v.gL<gb):=by
 obtain⟨gb,eK⟩:=aU w.heap.size;have hl:=h.lts;obtain⟨O,hO⟩:=aU (.cells (fO v r) 40:sY);obtain⟨Z,hZ⟩:=aU (jO:sY);have kW:((w.alloc O).alloc Z).heap[gb]? =some (Ew v r):=by rw[hO,eK];exact dF (lO _ _) _
 have n8:((w.alloc O).alloc Z).heap[gb+1]? =some jO:=by rw[<-hZ];exact mX _ _ X9
 have eE:((w.alloc O).alloc Z).heap.size=gb+2:=by rw[eK];simp
 have eO:=aC (show gG w ((w.alloc O).alloc Z) lo gb 2 v v r from⟨(h.alloc O).alloc Z,n5.of_below v (dO (dO (eR _ _) _) _),vX.refl _ _,eK,kW,by rw[eE];exact aZ _,aD,.inl aD,.inl aD,.inl aD,.inl aD,aD⟩);have oU:=aC eE;have jK:=aC n8;have HO:=aC hO;have HZ:=aC (show Z=.cells #[.int .i64 0,.int .i64 0,.int .i64 0,.int .i64 0,.slice none 0 0,.slice none 0 0,.slice none 0 0,.slice none 0 0] 40 from hZ);have fK:=aC eK;have HL:=aC (show v.gR<gb/\v.gW<gb/\v.gB<gb/\v.gL<gb by omega);exact⟨gb,O,Z,fK,HO,HZ,eO,jK,oU,HL⟩
theorem zy4 {u:Nat}(h:9<u):Us u=Us (u/10)++[zb6 (48+u%10)]:=by
 rw[Us,dif_neg aD]
theorem zbA (k:Nat)(hk:k<=100000000)(w:aE):
 iE aK 57 #[.int .i64 k] w λe w'=>e=.returned (.string ⟨(Ld k).toArray⟩)/\bU w.heap.size w w':=by
 have hI:=aC (Lib.itoa_nonneg k)
 go_enter Tryd.func57,Tryd.ntmps57
 go_wp2
 go_loopw [0,3] (λa s wr=>∃(u:Nat) (l:List UInt8),a=.int .i64 u/\s=.string ⟨l.toArray⟩/\u<=100000000/\Us u++l=Us k/\bU w.heap.size w wr) (λa _ _=>(intOf a).toNat)
 case atStart=>exact⟨k,[],rfl,rfl,hk,List.append_nil _,eR _ _⟩
 case round=>
  obtain⟨u,l,rfl,rfl,hu,hl,B⟩:=hrel;have HL:=aC hl;clear hl;have Ip:l.length<=20:=by have:=congrArg List.length HL.o;rw[gJ] at this;have:=Qv (k:=k) aD;omega
  by_cases aP:9<u
  .have zia:=cv1 wr (48+u%10) aD
   rw[show((48+u%10:Nat):Int)=48+(u:Int)%10 by omega] at zia;have HD:=aC (zy4 aP);go_wp2;go_roundw
   case rel=>exact⟨u/10,zb6 (48+u%10)::l,by first|rfl|(congr 1;omega),by rw[Nf];simp,aD,by rw[<-HL.o,HD.o];simp,dO B _⟩
   case measure=>simp[intOf];omega
  .have zia:=cv1 wr (48+u) aD
   rw[show((48+u:Nat):Int)=48+(u:Int) by omega] at zia;have HT:=aC (show(⟨[zb6 (48+u)].toArray⟩:ByteArray)++⟨l.toArray⟩=⟨(Ld k).toArray⟩ by rw[Nf,hI.o,<-HL.o,Lib.decDigits_one aD];simp);go_wp2;go_ret;exact⟨congrArg (λx=>Ud (aF.string x)) (by rw[<-HT.o];simp),dO B _⟩
end Go.Proofs.YtfcjiloojkjaeaaDoor
namespace Go.Tt
abbrev Pr:=Nat->Nat->Prop
def Pr.le (R R':Pr):Prop:=∀a b,R a b->R' a b
def Pr.le.refl (R:Pr):R.le R:=λ_ _ h=>h
variable {R R':Pr}
def Pr.le.trans {Pg:Pr}(h:R.le R')(h':R'.le Pg):R.le Pg:=λa b x=>h' a b (h a b x)
def Pr.add (R:Pr)(n n':Nat):Pr:=λa b=>R a b\/(a=n/\b=n')
def Pr.le_add (R:Pr)(n n':Nat):R.le (R.add n n'):=λ_ _ h=>.inl h
inductive fM (R:Pr):bO->bO->Prop
 |mk {b b' o:Nat} {s:Option Nat}:R b b'->fM R ⟨b,o,s⟩ ⟨b',o,s⟩
inductive wX (R:Pr):Option bO->Option bO->Prop
 |none:wX R none none
 |some {a a':bO}:fM R a a'->wX R (some a) (some a')
inductive E5 (R:Pr):Option Nat->Option Nat->Prop
 |none:E5 R none none
 |some {a a':Nat}:R a a'->E5 R (some a) (some a')
def Pr.or (R K:Pr):Pr:=λa b=>R a b\/K a b
variable {K:Pr}
def Pr.or_mono (h:R.le R'):(R.or K).le (R'.or K):=λa b x=>x.imp (h a b) id
def HidV:aF->Prop
 | .agg _| .tuple _| .bool _| .nilIface=>False
 |_=>True
inductive VR (S:aN->Prop)(K R:Pr):aF->aF->Prop
 |bool (b:Bool):VR S K R (.bool b) (.bool b)
 |int (k:E8) (n:Int):VR S K R (.int k n) (.int k n)
 |string (s:ByteArray):VR S K R (.string s) (.string s)
 |nilFunc:VR S K R .nilFunc .nilFunc
 |nilIface:VR S K R .nilIface .nilIface
 |pointer {a a':Option bO}:wX R a a'->VR S K R (.pointer a) (.pointer a')
 |slice {a a':Option bO} {n c:Nat}:wX R a a'->VR S K R (.slice a n c) (.slice a' n c)
 |map {a a':Option Nat}:E5 R a a'->VR S K R (.map a) (.map a')
 |chan {a a':Option Nat}:E5 (R.or K) a a'->VR S K R (.chan a) (.chan a')
 |func {f:aN} {xs bX ys Yt:Array aF}:S f->xs.size=bX.size->(∀(i:Nat) (v v':aF),xs[i]? =some v->bX[i]? =some v'->VR S K R v v')->
  ys.size=Yt.size->(∀(i:Nat) (v v':aF),ys[i]? =some v->Yt[i]? =some v'->VR S K R v v')->VR S K R (.func (.func f) xs ys) (.func (.func f) bX Yt)
 |iface {t:aM} {v v':aF}:VR S K R v v'->VR S K R (.iface t v) (.iface t v')
 |agg {xs bX:Array aF}:xs.size=bX.size->(∀(i:Nat) (v v':aF),xs[i]? =some v->bX[i]? =some v'->VR S K R v v')->VR S K R (.agg xs) (.agg bX)
 |tuple {xs bX:Array aF}:xs.size=bX.size->(∀(i:Nat) (v v':aF),xs[i]? =some v->bX[i]? =some v'->VR S K R v v')->VR S K R (.tuple xs) (.tuple bX)
 |junk {v':aF}:HidV v'->VR S K R .nilFunc v'
def bK (S:aN->Prop)(K R:Pr)(xs bX:Array aF):Prop:=xs.size=bX.size/\∀(i:Nat) (v v':aF),xs[i]? =some v->bX[i]? =some v'->VR S K R v v'
section
variable {S:aN->Prop}{K R R':Pr}
theorem fM.mono (h:R.le R'){a a':bO}(x:fM R a a'):fM R' a a':=by cases x with|mk x=>exact .mk (h _ _ x)
theorem wX.mono (h:R.le R'){a a':Option bO}(x:wX R a a'):wX R' a a':=by cases x with|none=>exact .none|some x=>exact .some (x.mono h)
theorem E5.mono (h:R.le R'){a a':Option Nat}(x:E5 R a a'):E5 R' a a':=by cases x with|none=>exact .none|some x=>exact .some (h _ _ x)
variable {v v':aF}
theorem VR.mono (h:R.le R')(x:VR S K R v v'):VR S K R' v v':=by
 induction x with
 |bool b=>exact .bool b
 |int k n=>exact .int k n
 |string s=>exact .string s
 |nilFunc=>exact .nilFunc
 |nilIface=>exact .nilIface
 |pointer x=>exact .pointer (x.mono h)
 |slice x=>exact .slice (x.mono h)
 |map x=>exact .map (x.mono h)
 |chan x=>exact .chan (x.mono (Pr.or_mono h))
 |func s e1 _ e2 _ i1 i2=>exact .func s e1 i1 e2 i2
 |iface _ ih=>exact .iface ih
 |agg e _ ih=>exact .agg e ih
 |tuple e _ ih=>exact .tuple e ih
 |junk h=>exact .junk h
variable {xs bX:Array aF}
def bK.mono (h:R.le R')(x:bK S K R xs bX):bK S K R' xs bX:=⟨x.1,λi v v' h1 h2=>(x.2 i v v' h1 h2).mono h⟩
variable {i:Nat}
theorem bK.get (x:bK S K R xs bX)(h:xs[i]? =some v):∃v',bX[i]? =some v'/\VR S K R v v':=by
 have hi:i<bX.size:=by rw[<-x.1];exact(dM.1 h).1
 exact⟨bX[i],nA hi,x.2 i _ _ h (nA hi)⟩
theorem bK.none (x:bK S K R xs bX)(h:xs[i]? =none):bX[i]? =none:=by
 rw[zvv] at h⊢;rw[<-x.1];exact h
theorem bK.getD (x:bK S K R xs bX)(i:Nat){d d':aF}(hd:VR S K R d d'):VR S K R (xs.getD i d) (bX.getD i d'):=by
 rw[tD,tD]
 cases h:xs[i]? with
 |none=>rw[x.none h];exact hd
 |some v=>obtain⟨v',h',hv⟩:=x.get h;rw[h'];exact hv
theorem bK.set (x:bK S K R xs bX)(i:Nat)(hv:VR S K R v v'):bK S K R (xs.setIfInBounds i v) (bX.setIfInBounds i v'):=by
 refine⟨by simp[x.1],λj u u' h h'=>?_⟩;by_cases e:i=j
 .subst e
  rw[Array.getElem?_setIfInBounds] at h h';simp only[if_true] at h h';split at h<;>split at h'<;>simp_all
 .rw[jM e] at h h'
  exact x.2 j u u' h h'
theorem bK.push (x:bK S K R xs bX)(hv:VR S K R v v'):bK S K R (xs.push v) (bX.push v'):=by
 refine⟨by simp[x.1],λj u u' h h'=>?_⟩;rw[Xh] at h h';rw[<-x.1] at h';split at h
 .rename_i e;rw[if_pos e] at h';injection h with h;injection h' with h';subst h h';exact hv
 .rename_i e;rw[if_neg e] at h';exact x.2 j u u' h h'
theorem bK.append {ys Yt:Array aF}(x:bK S K R xs bX)(y:bK S K R ys Yt):bK S K R (xs++ys) (bX++Yt):=by
 refine⟨by simp[x.1,y.1],λj u u' h h'=>?_⟩;rw[Array.getElem?_append] at h h';rw[<-x.1] at h';split at h
 .rename_i e;rw[if_pos e] at h';exact x.2 j u u' h h'
 .rename_i e;rw[if_neg e] at h';exact y.2 _ u u' h h'
theorem bK.empty:bK S K R #[] #[]:=⟨rfl,λi v v' h=>by simp at h⟩
def bK.one (h:VR S K R v v'):bK S K R #[v] #[v']:=bK.empty.push h
theorem bK.extract (x:bK S K R xs bX)(i j:Nat):bK S K R (xs.extract i j) (bX.extract i j):=by
 refine⟨by simp[x.1],λk u u' h h'=>?_⟩;rw[Array.getElem?_extract] at h h';split at h
 .rename_i e;rw[<-x.1,if_pos e] at h';exact x.2 _ u u' h h'
 .cases h
def VR.agg' (x:bK S K R xs bX):VR S K R (.agg xs) (.agg bX):=.agg x.1 x.2
def VR.tuple' (x:bK S K R xs bX):VR S K R (.tuple xs) (.tuple bX):=.tuple x.1 x.2
theorem VR.cells (x:VR S K R v v'):bK S K R v.cells v'.cells:=by
 cases x with
 |agg e h=>exact⟨e,h⟩
 |bool b=>exact .one (.bool b)
 |int k n=>exact .one (.int k n)
 |string s=>exact .one (.string s)
 |nilFunc=>exact .one .nilFunc
 |nilIface=>exact .one .nilIface
 |pointer x=>exact .one (.pointer x)
 |slice x=>exact .one (.slice x)
 |map x=>exact .one (.map x)
 |chan x=>exact .one (.chan x)
 |func s e1 h1 e2 h2=>exact .one (.func s e1 h1 e2 h2)
 |iface x=>exact .one (.iface x)
 |tuple e h=>exact .one (.tuple e h)
 |junk h=>
  have e:v'.cells=#[v']:=by cases v'<;>first|rfl|exact h.elim
  rw[e];exact .one (.junk h)
end
structure dI where
 c:bS
 fs:Array Func
 op:aN->Bool
 lw:aN->Bool
 gs:aN->Bool
 dy:Bool
abbrev dI.g (P:dI):Program:={P.c with funcs:=P.fs}
abbrev dI.underlying (P:dI)(t:aM):=P.c.underlying t
abbrev dI.info? (P:dI)(t:aM):=P.c.info? t
abbrev dI.globals (P:dI):=P.c.globals
def At (p:bS)(g:Nat):Bool:=match p.globals[g]? with|some x=>(match p.underlying x.type with|some (.array _ _)=>true|_=>false)|none=>false
structure Gp where
 n:Nat
 tab:Nat->Bool
abbrev oR (p:bS):Gp:=⟨p.globals.size,At p⟩
abbrev dI.gp (P:dI):Gp:=oR P.c
def dI.underlying_g (P:dI)(t:aM):P.g.underlying t=P.c.underlying t:=rfl
def dI.info_g (P:dI)(t:aM):P.g.info? t=P.c.info? t:=rfl
def dI.cells_g (P:dI)(t:aM):P.g.cellsOf t=P.c.cellsOf t:=rfl
def dI.bytes_g (P:dI)(t:aM):P.g.bytesOf t=P.c.bytesOf t:=rfl
def dI.depth_g (P:dI):P.g.depth=P.c.depth:=rfl
theorem dI.byteOfCell_g (P:dI):∀(d:Nat) (t:aM) (o:Nat),byteOfCell P.g d t o=byteOfCell P.c d t o:=by
 intro d
 induction d with
 |zero=>intro t o;rfl
 |succ d ih=>
  intro t o;unfold byteOfCell;rw[P.underlying_g];simp only[ih,P.cells_g,P.bytes_g];rfl
def dI.globals_g (P:dI):P.g.globals=P.c.globals:=rfl
inductive Az (S:aN->Prop)(K R:Pr):oS->oS->Prop
 |mk {k k' v v':aF} {born:Nat}:VR S K R k k'->VR S K R v v'->Az S K R ⟨k,v,born⟩ ⟨k',v',born⟩
def pZ (S:aN->Prop)(K R:Pr)(es eV:Array oS):Prop:=es.size=eV.size/\∀(i:Nat) (e e':oS),es[i]? =some e->eV[i]? =some e'->Az S K R e e'
def Ja (fz:Nat×Nat)(o:Nat):Prop:=fz.1<=o/\o<fz.2
inductive oA (S:aN->Prop)(K R:Pr):sY->sY->Prop
 |cells {c c':Array aF} {T:aM} {fz Im:Nat×Nat}:bK S K R c c'->(∀o,Ja Im o->Ja fz o)->oA S K R (.cells c T fz) (.cells c' T Im)
 |map {es eV:Array oS} {cl:Nat}:pZ S K R es eV->oA S K R (.map es cl) (.map eV cl)
 |chan {cap s r:Nat} {Ix zv0:Array aF} {closed tm:Bool}:bK S K R Ix zv0->oA S K R (.chan cap Ix closed s r tm) (.chan cap zv0 closed s r tm)
 |stringIter (s:ByteArray) (pos:Nat):oA S K R (.stringIter s pos) (.stringIter s pos)
 |number {a a':bO} {lost:Bool}:fM R a a'->oA S K R (.number a lost) (.number a' lost)
 |mapIter {m m':Option Nat} {since stepped:Nat} {seen:Array Nat}:E5 R m m'->oA S K R (.mapIter m since seen stepped) (.mapIter m' since seen stepped)
section
variable {S:aN->Prop}{K R R':Pr}
theorem Az.mono (h:R.le R'){e e':oS}(x:Az S K R e e'):Az S K R' e e':=by cases x with|mk a b=>exact .mk (a.mono h) (b.mono h)
def pZ.mono (h:R.le R'){e e':Array oS}(x:pZ S K R e e'):pZ S K R' e e':=⟨x.1,λi a b h1 h2=>(x.2 i a b h1 h2).mono h⟩
theorem oA.mono (h:R.le R'){o o':sY}(x:oA S K R o o'):oA S K R' o o':=by
 cases x with
 |cells a b=>exact .cells (a.mono h) b
 |map a=>exact .map (a.mono h)
 |chan a=>exact .chan (a.mono h)
 |stringIter s p=>exact .stringIter s p
 |number a=>exact .number (a.mono h)
 |mapIter a=>exact .mapIter (a.mono h)
end
def oM:Obj:=.cells #[] 0
structure tF (P:dI)(K R:Pr):Prop where
 inj:∀a b c,R.or K a b->R.or K a c->b=c
 inj':∀a b c,R.or K a c->R.or K b c->a=b
 low:∀a b,R a b->(a<P.globals.size↔b<P.globals.size)
 tb:∀g,At P.c g=true->R g g
structure zxx (P:dI)(K R:Pr)(n n':Nat):Prop where
 l:∀b,¬R.or K n b
 r:∀a,¬R.or K a n'
 low:P.globals.size<=n/\P.globals.size<=n'
structure xH (P:dI)(K R R':Pr):Prop where
 le:R.le R'
 ok:tF P K R->tF P K R'
variable {P:dI}
def xH.refl (R:Pr):xH P K R R:=⟨.refl R,id⟩
def xH.trans {Pg:Pr}(h:xH P K R R')(h':xH P K R' Pg):xH P K R Pg:=⟨h.le.trans h'.le,λx=>h'.ok (h.ok x)⟩
theorem xH.add {n n':Nat}(f:zxx P K R n n'):xH P K R (R.add n n'):=by
 refine⟨Pr.le_add R n n',λh=>⟨?_,?_,?_,λg hg=>.inl (h.tb g hg)⟩⟩
 .rintro a b c ((x|⟨rfl,rfl⟩)|x) ((y|⟨e,rfl⟩)|y)
  .exact h.inj a b c (.inl x) (.inl y)
  .exact absurd (.inl (e▸x)) (f.l _)
  .exact h.inj a b c (.inl x) (.inr y)
  .exact absurd (.inl y) (f.l _)
  .rfl
  .exact absurd (.inr y) (f.l _)
  .exact h.inj a b c (.inr x) (.inl y)
  .exact absurd (.inr (e▸x)) (f.l _)
  .exact h.inj a b c (.inr x) (.inr y)
 .rintro a b c ((x|⟨rfl,rfl⟩)|x) ((y|⟨rfl,e⟩)|y)
  .exact h.inj' a b c (.inl x) (.inl y)
  .exact absurd (.inl (e▸x)) (f.r _)
  .exact h.inj' a b c (.inl x) (.inr y)
  .exact absurd (.inl y) (f.r _)
  .rfl
  .exact absurd (.inr y) (f.r _)
  .exact h.inj' a b c (.inr x) (.inl y)
  .exact absurd (.inr (e▸x)) (f.r _)
  .exact h.inj' a b c (.inr x) (.inr y)
 .rintro a b (x|⟨rfl,rfl⟩)
  .exact h.low a b x
  .have:=f.low;omega
def Yw:Halt->Prop
 | .panic _| .stuck _=>True
 | .unsupported (.initOrder _)=>False
 | .unsupported _=>True
 |_=>False
def Bx (w:aE):Prop:=∀(b:Nat) (c:Array aF) (e:aM),w.heap[b]?≠some (.pending c e)
def eW (P:dI){α:Type}(s:cS α):Prop:=∀w,Bx w->∃h w',s.run P.g w=.halt h w'/\Yw h
variable {α:Type}{w:aE}
theorem eW.no {s:cS α}(h:eW P s)(hw:Bx w)(x:α)(w':aE):s.run P.g w≠ .ok x w':=by
 obtain⟨_,_,e,_⟩:=h w hw;rw[e];simp
variable {β:Type}
theorem eW.bind {s:cS α}(h:eW P s)(f:α->cS β):eW P (s.bind f):=by
 intro w hw;obtain⟨y,w1,e,ht⟩:=h w hw;exact⟨y,w1,by rw[q9,e];rfl,ht⟩
def H9 (P:dI)(S:aN->Prop)(K:Pr){α β:Type}(A:Pr->α->β->Prop):cS α->Pr->cS β->Prop
 | .pure a,R,s'=>∃b,s'=.pure b/\A R a b
 | .load m a k,R,s'=>m=.plain/\∃a' k',s'=.load .plain a' k'/\fM R a a'/\∀v v',VR S K R v v'->eW P (k v)\/H9 P S K A (k v) R (k' v')
 | .store m a v k,R,s'=>m=.plain/\∃a' v' k',s'=.store .plain a' v' k'/\fM R a a'/\VR S K R v v'/\(eW P k\/H9 P S K A k R k')
 | .new o k,R,s'=>∃o' k',s'=.new o' k'/\oA S K R o o'/\∀n n',zxx P K R n n'->eW P (k n)\/H9 P S K A (k n) (R.add n n') (k' n')
 | .shape r k,R,s'=>∃r' k',s'=.shape r' k'/\R r r'/\∀x,eW P (k x)\/H9 P S K A (k x) R (k' x)
 | .freeze _ _ _,_,_=>False
 | .frozen a k,R,s'=>∃a' k',s'=.frozen a' k'/\∀x x',eW P (k x)\/H9 P S K A (k x) R (k' x')
 | .getObj r k,R,s'=>∃r' k',s'=.getObj r' k'/\R.or K r r'/\∀o o',oA S K R o o'->eW P (k o)\/H9 P S K A (k o) R (k' o')
 | .setObj r o k,R,s'=>∃r' o' k',s'=.setObj r' o' k'/\R.or K r r'/\oA S K R o o'/\(eW P k\/H9 P S K A k R k')
 | .choose q k,R,s'=>∃k',s'=.choose q k'/\∀n,eW P (k n)\/H9 P S K A (k n) R (k' n)
 | .sys _ _,_,_=>False
 | .program k,R,s'=>∃k',s'=.program k'/\(eW P (k P.g)\/H9 P S K A (k P.g) R (k' P.c))
 | .mark m k,R,s'=>m=.noRoom/\∃k',s'=.mark .noRoom k'/\(eW P k\/H9 P S K A k R k')
 | .halt _,_,_=>False
def aG (P:dI)(S:aN->Prop)(K:Pr){α β:Type}(A:Pr->α->β->Prop)(s:cS α)(R:Pr)(s':cS β):Prop:=eW P s\/H9 P S K A s R s'
section
variable {P:dI}{S:aN->Prop}{K:Pr}{α β γ δ:Type}{A:Pr->α->β->Prop}{B:Pr->γ->δ->Prop}
def aG.pure {R:Pr}{a:α}{b:β}(h:A R a b):aG P S K A (.pure a) R (.pure b):=.inr ⟨b,rfl,h⟩
def eW.halt {h:Halt}(ht:Yw h):eW P (.halt h:cS α):=λw _=>⟨h,w,rfl,ht⟩
theorem aG.bind {s:cS α}:∀{R:Pr} {s':cS β} {f:α->cS γ} {f':β->cS δ},aG P S K A s R s'->(∀R',xH P K R R'->∀a b,A R' a b->aG P S K B (f a) R' (f' b))->aG P S K B (s.bind f) R (s'.bind f'):=by
 induction s with
 |pure a=>
  rintro R s' f f' (hn|⟨b,rfl,h⟩) hf
  .exact .inl (hn.bind _)
  .exact hf R (.refl R) a b h
 |load m a k ih=>
  rintro R s' f f' (hn|⟨hm,a',k',rfl,ha,hk⟩) hf
  .exact .inl (hn.bind _)
  .exact .inr ⟨hm,a',_,rfl,ha,λv v' hv=>ih v (hk v v' hv) hf⟩
 |store m a v k ih=>
  rintro R s' f f' (hn|⟨hm,a',v',k',rfl,ha,hv,hk⟩) hf
  .exact .inl (hn.bind _)
  .exact .inr ⟨hm,a',v',_,rfl,ha,hv,ih hk hf⟩
 |new o k ih=>
  rintro R s' f f' (hn|⟨o',k',rfl,ho,hk⟩) hf
  .exact .inl (hn.bind _)
  .exact .inr ⟨o',_,rfl,ho,λn n' fI=>ih n (hk n n' fI) λR' hR a b h=>hf R' ((xH.add fI).trans hR) a b h⟩
 |shape r k ih=>
  rintro R s' f f' (hn|⟨r',k',rfl,hr,hk⟩) hf
  .exact .inl (hn.bind _)
  .exact .inr ⟨r',_,rfl,hr,λx=>ih x (hk x) hf⟩
 |freeze a n k ih=>
  rintro R s' f f' (hn|h) hf
  .exact .inl (hn.bind _)
  .exact h.elim
 |frozen a k ih=>
  rintro R s' f f' (hn|⟨r',k',rfl,hk⟩) hf
  .exact .inl (hn.bind _)
  .exact .inr ⟨r',_,rfl,λx x'=>ih x (hk x x') hf⟩
 |getObj r k ih=>
  rintro R s' f f' (hn|⟨r',k',rfl,hr,hk⟩) hf
  .exact .inl (hn.bind _)
  .exact .inr ⟨r',_,rfl,hr,λo o' ho=>ih o (hk o o' ho) hf⟩
 |setObj r o k ih=>
  rintro R s' f f' (hn|⟨r',o',k',rfl,hr,ho,hk⟩) hf
  .exact .inl (hn.bind _)
  .exact .inr ⟨r',o',_,rfl,hr,ho,ih hk hf⟩
 |choose q k ih=>
  rintro R s' f f' (hn|⟨k',rfl,hk⟩) hf
  .exact .inl (hn.bind _)
  .exact .inr ⟨_,rfl,λn=>ih n (hk n) hf⟩
 |sys c k ih=>
  rintro R s' f f' (hn|h) hf
  .exact .inl (hn.bind _)
  .exact h.elim
 |program k ih=>
  rintro R s' f f' (hn|⟨k',rfl,hk⟩) hf
  .exact .inl (hn.bind _)
  .exact .inr ⟨_,rfl,ih P.g hk hf⟩
 |mark m k ih=>
  rintro R s' f f' (hn|⟨rfl,k',rfl,hk⟩) hf
  .exact .inl (hn.bind _)
  .exact .inr ⟨rfl,_,rfl,ih hk hf⟩
 |halt h=>
  rintro R s' f f' (hn|hx) _
  .exact .inl (hn.bind _)
  .exact hx.elim
theorem aG.mono {A':Pr->α->β->Prop}{s:cS α}:∀{R:Pr} {s':cS β},aG P S K A s R s'->(∀R',xH P K R R'->∀a b,A R' a b->A' R' a b)->aG P S K A' s R s':=by
 induction s with
 |pure a=>
  rintro R s' (hn|⟨b,rfl,h⟩) hf
  .exact .inl hn
  .exact .inr ⟨b,rfl,hf R (.refl R) a b h⟩
 |load m a k ih=>
  rintro R s' (hn|⟨hm,a',k',rfl,ha,hk⟩) hf
  .exact .inl hn
  .exact .inr ⟨hm,a',_,rfl,ha,λv v' hv=>ih v (hk v v' hv) hf⟩
 |store m a v k ih=>
  rintro R s' (hn|⟨hm,a',v',k',rfl,ha,hv,hk⟩) hf
  .exact .inl hn
  .exact .inr ⟨hm,a',v',_,rfl,ha,hv,ih hk hf⟩
 |new o k ih=>
  rintro R s' (hn|⟨o',k',rfl,ho,hk⟩) hf
  .exact .inl hn
  .exact .inr ⟨o',_,rfl,ho,λn n' fI=>ih n (hk n n' fI) λR' hR a b h=>hf R' ((xH.add fI).trans hR) a b h⟩
 |shape r k ih=>
  rintro R s' (hn|⟨r',k',rfl,hr,hk⟩) hf
  .exact .inl hn
  .exact .inr ⟨r',_,rfl,hr,λx=>ih x (hk x) hf⟩
 |freeze a n k ih=>
  rintro R s' (hn|h) hf
  .exact .inl hn
  .exact h.elim
 |frozen a k ih=>
  rintro R s' (hn|⟨r',k',rfl,hk⟩) hf
  .exact .inl hn
  .exact .inr ⟨r',_,rfl,λx x'=>ih x (hk x x') hf⟩
 |getObj r k ih=>
  rintro R s' (hn|⟨r',k',rfl,hr,hk⟩) hf
  .exact .inl hn
  .exact .inr ⟨r',_,rfl,hr,λo o' ho=>ih o (hk o o' ho) hf⟩
 |setObj r o k ih=>
  rintro R s' (hn|⟨r',o',k',rfl,hr,ho,hk⟩) hf
  .exact .inl hn
  .exact .inr ⟨r',o',_,rfl,hr,ho,ih hk hf⟩
 |choose q k ih=>
  rintro R s' (hn|⟨k',rfl,hk⟩) hf
  .exact .inl hn
  .exact .inr ⟨_,rfl,λn=>ih n (hk n) hf⟩
 |sys c k ih=>
  rintro R s' (hn|h) hf
  .exact .inl hn
  .exact h.elim
 |program k ih=>
  rintro R s' (hn|⟨k',rfl,hk⟩) hf
  .exact .inl hn
  .exact .inr ⟨_,rfl,ih P.g hk hf⟩
 |mark m k ih=>
  rintro R s' (hn|⟨rfl,k',rfl,hk⟩) hf
  .exact .inl hn
  .exact .inr ⟨rfl,_,rfl,ih hk hf⟩
 |halt h=>
  rintro R s' (hn|hx) _
  .exact .inl hn
  .exact hx.elim
end
structure cT (S:aN->Prop)(K R:Pr)(G:Gp)(St:Nat->Prop)(w W:aE):Prop where
 inj:∀a b c,R.or K a b->R.or K a c->b=c
 inj':∀a b c,R.or K a c->R.or K b c->a=b
 lt:∀a b,R.or K a b->a<w.heap.size/\b<W.heap.size
 low:∀a b,R a b->(a<G.n↔b<G.n)/\(a<G.n->a=b)
 gle:G.n<=w.heap.size/\G.n<=W.heap.size
 cont:∀a b,R a b->∃o o',w.heap[a]? =some o/\W.heap[b]? =some o'/\oA S K R o o'
 rest:∀a b,K a b->(∀c,¬R a c)->w.heap[a]? =some oM
 st:∀a,St a->(∃b,R a b)/\∃c T hi,w.heap[a]? =some (.cells c T (0,hi))/\c.size<=hi
 np:Bx w
 tb:∀g,G.tab g=true->R g g
def Tp (w W:aE):Prop:=∀n q,w.tape (w.drawn+n) q=W.tape (W.drawn+n) q
def Gw (e:Event):Option Nat:=match e.loc with| .cell a=>some a.block| .obj r=>some r|_=>none
def Ft (R:Pr)(St:Nat->Prop)(e:Event):Prop:=
 e=⟨.mark .noRoom,false,true⟩\/∃b a,Gw e=some b/\R a b/\(e.write=true->¬St a)
variable {St:Nat->Prop}
theorem Ft.mono (h:R.le R'){e:Event}(x:Ft R St e):Ft R' St e:=by
 rcases x with x|⟨b,a,h1,h2,h3⟩
 .exact .inl x
 .exact .inr ⟨b,a,h1,h _ _ h2,h3⟩
structure mL (S:aN->Prop)(K R:Pr)(G:Gp)(St:Nat->Prop)(w W:aE)(R':Pr)(w' W':aE):Prop where
 le:R.le R'
 old:∀a b,R a b->a<w.heap.size/\b<W.heap.size
 rel:cT S K R' G St w' W'
 tape:w'.tape=w.tape/\W'.tape=W.tape
 drawn:∃d,w'.drawn=w.drawn+d/\W'.drawn=W.drawn+d
 os:w'.os=w.os/\W'.os=W.os
 ou:w'.output=w.output/\W'.output=W.output
 size:w.heap.size<=w'.heap.size/\W.heap.size<=W'.heap.size
 new:∀a b,R' a b->R a b\/(w.heap.size<=a/\W.heap.size<=b)
 full:∀b,W.heap.size<=b->b<W'.heap.size->∃a,R' a b/\w.heap.size<=a
 keep:∀b,b<W.heap.size->(∀a,R a b->St a)->W'.heap[b]? =W.heap[b]?
 still:∀a,St a->w'.heap[a]? =w.heap[a]?
 keepG:∀a,a<w.heap.size->(∀b,¬R a b)->w'.heap[a]? =w.heap[a]?
section
variable {P:dI}{S:aN->Prop}{K R R' Pg:Pr}{G:Gp}{St:Nat->Prop}{w W w' W' Ef zns:aE}
def cT.ltR (h:cT S K R G St w W):∀a b,R a b->a<w.heap.size/\b<W.heap.size:=λa b x=>h.lt a b (.inl x)
def mL.refl (h:cT S K R G St w W):mL S K R G St w W R w W:=
 ⟨.refl R,h.ltR,h,⟨rfl,rfl⟩,⟨0,rfl,rfl⟩,⟨rfl,rfl⟩,⟨rfl,rfl⟩,⟨aZ _,aZ _⟩,λ_ _ h=>.inl h,λb h1 h2=>absurd h2 aD,λ_ _ _=>rfl,λ_ _=>rfl,λ_ _ _=>rfl⟩
theorem mL.trans (h:mL S K R G St w W R' w' W')(h':mL S K R' G St w' W' Pg Ef zns):mL S K R G St w W Pg Ef zns:=by
 obtain⟨d,d1,d2⟩:=h.drawn;obtain⟨e,e1,e2⟩:=h'.drawn;have s1:=h.size;have s2:=h'.size;refine⟨h.le.trans h'.le,h.old,h'.rel,⟨h'.tape.1.trans h.tape.1,h'.tape.2.trans h.tape.2⟩,⟨d+e,aD,aD⟩,⟨h'.os.1.trans h.os.1,h'.os.2.trans h.os.2⟩,⟨h'.ou.1.trans h.ou.1,h'.ou.2.trans h.ou.2⟩,⟨aD,aD⟩,?_,?_,?_,?_,?_⟩
 .intro a b x
  rcases h'.new a b x with x|⟨x,y⟩
  .exact h.new a b x
  .exact .inr ⟨aD,aD⟩
 .intro b x y
  rcases nM b W'.heap.size with z|z
  .obtain⟨a,r,g⟩:=h.full b x z
   exact⟨a,h'.le a b r,g⟩
  .obtain⟨a,r,g⟩:=h'.full b z y
   exact⟨a,r,aD⟩
 .intro b x hk
  refine(h'.keep b aD λa r=>?_).trans (h.keep b x hk);rcases h.new a b r with r'|⟨_,r'⟩
  .exact hk a r'
  .omega
 .intro a x;exact(h'.still a x).trans (h.still a x)
 .intro a x y
  refine(h'.keepG a aD λb r=>?_).trans (h.keepG a x y);rcases h.new a b r with r'|⟨r',_⟩
  .exact y b r'
  .omega
end
section
variable {P:dI}{S:aN->Prop}{K R R':Pr}{G:Gp}{St:Nat->Prop}{w W w' W':aE}
def zsH:(Mode.plain==Mode.atomic)=false:=rfl
variable {o:sY}
def zbp {w:aE}{a:Nat}(h:w.heap[a]? =some o):a<w.heap.size:=(dM.1 h).1
variable {o':sY}
theorem oA.live {S:aN->Prop}{K R:Pr}(h:oA S K R o o'):∀c e,o≠ .pending c e:=by cases h<;>simp
theorem Bx.set {w:aE}(h:Bx w){a:Nat}(ho:∀c e,o≠ .pending c e):Bx {w with heap:=w.heap.setIfInBounds a o}:=by
 intro b c e;by_cases hb:a=b
 .subst hb
  rcases nM a w.heap.size with hl|hl
  .simp only[Mb hl,ne_eq,fS];exact ho c e
  .rw[G4 (by simpa using hl)];simp
 .simp only[jM hb];exact h b c e
theorem Bx.push {w:aE}(h:Bx w)(ho:∀c e,o≠ .pending c e):Bx {w with heap:=w.heap.push o}:=by
 intro b c e;simp only[Xh];split
 .simp only[ne_eq,fS];exact ho c e
 .exact h b c e
theorem mL.upd (h:cT S K R G St w W){a b:Nat}(r:R a b)(ns:¬St a)(ho:oA S K R o o'):
 mL S K R G St w W R {w with heap:=w.heap.setIfInBounds a o} {W with heap:=W.heap.setIfInBounds b o'}:=by
 obtain⟨l1,l2⟩:=h.ltR a b r;refine⟨.refl R,h.ltR,⟨h.inj,h.inj',λx y z=>by simpa using h.lt x y z,h.low,by simpa using h.gle,λx y z=>?_,λx y' hx nf=>?_,λx sx=>?_,Bx.set h.np ho.live,h.tb⟩,⟨rfl,rfl⟩,⟨0,rfl,rfl⟩,⟨rfl,rfl⟩,⟨rfl,rfl⟩,⟨aQ,aQ⟩,λ_ _ h=>.inl h,λx h1 h2=>absurd h2 rF,λx hx hk=>?_,λx sx=>?_,λx hx nf=>?_⟩
 .by_cases e:x=a
  .subst e
   have:=h.inj x y b (.inl z) (.inl r);subst this;exact⟨o,o',by simp[l1],by simp[l2],ho⟩
  .have e':y≠b:=λe'=>e (h.inj' x a b (.inl (e'▸z)) (.inl r))
   obtain⟨p,q,h1,h2,h3⟩:=h.cont x y z;exact⟨p,q,by simp[jM (Ne.symm e),h1],by simp[jM (Ne.symm e'),h2],h3⟩
 .have e:x≠a:=λe=>nf b (e▸r)
  have:=h.rest x _ hx nf;simp[jM (Ne.symm e),this]
 .have e:x≠a:=λe=>ns (e▸sx)
  obtain⟨fx,c,T,hi,h1,h2⟩:=h.st x sx;exact⟨fx,c,T,hi,by simp[jM (Ne.symm e),h1],h2⟩
 .have e:b≠x:=λe=>ns (hk a (e▸r))
  simp[jM e]
 .have e:x≠a:=λe=>ns (e▸sx)
  simp[jM (Ne.symm e)]
 .have e:x≠a:=λe=>nf b (e▸r)
  simp[jM (Ne.symm e)]
theorem Y7 {w:aE}{b o:Nat}{c:Array aF}{T:aM}{fz:Nat×Nat}(h:w.heap[b]? =some (.cells c T fz))(v:aF):
 w.setCell ⟨b,o,none⟩ v={w with heap:=w.heap.setIfInBounds b (.cells (c.setIfInBounds o v) T fz)}:=by
 have hl:=zbp h;have hb:w.heap[b]=.cells c T fz:=by simpa[nA hl] using h
 unfold zi2;congr 1;apply Array.ext_getElem?;intro i;rw[zj5];by_cases e:b=i
 .subst e;simp[hl,hb]
 .rw[if_neg e,jM e]
theorem mL.push (h:cT S K R G St w W)(ho:oA S K R o o'):
 mL S K R G St w W (R.add w.heap.size W.heap.size) {w with heap:=w.heap.push o} {W with heap:=W.heap.push o'}:=by
 have l1:∀a b,R.or K a b->a≠w.heap.size:=λa b x e=>by have:=(h.lt a b x).1;omega
 have l2:∀a b,R.or K a b->b≠W.heap.size:=λa b x e=>by have:=(h.lt a b x).2;omega
 have g1:=h.gle;refine⟨Pr.le_add _ _ _,h.ltR,⟨?_,?_,?_,?_,rF,?_,?_,?_,Bx.push h.np ho.live,λg hg=>.inl (h.tb g hg)⟩,⟨rfl,rfl⟩,⟨0,rfl,rfl⟩,⟨rfl,rfl⟩,⟨rfl,rfl⟩,⟨aQ,aQ⟩,?_,?_,?_,?_,?_⟩
 .rintro a b c ((x|⟨rfl,rfl⟩)|x) ((y|⟨e,rfl⟩)|y)
  .exact h.inj a b c (.inl x) (.inl y)
  .exact absurd e (l1 _ _ (.inl x))
  .exact h.inj a b c (.inl x) (.inr y)
  .exact absurd rfl (l1 _ _ (.inl y))
  .rfl
  .exact absurd rfl (l1 _ _ (.inr y))
  .exact h.inj a b c (.inr x) (.inl y)
  .exact absurd e (l1 _ _ (.inr x))
  .exact h.inj a b c (.inr x) (.inr y)
 .rintro a b c ((x|⟨rfl,rfl⟩)|x) ((y|⟨rfl,e⟩)|y)
  .exact h.inj' a b c (.inl x) (.inl y)
  .exact absurd e (l2 _ _ (.inl x))
  .exact h.inj' a b c (.inl x) (.inr y)
  .exact absurd rfl (l2 _ _ (.inl y))
  .rfl
  .exact absurd rfl (l2 _ _ (.inr y))
  .exact h.inj' a b c (.inr x) (.inl y)
  .exact absurd e (l2 _ _ (.inr x))
  .exact h.inj' a b c (.inr x) (.inr y)
 .rintro a b ((x|⟨rfl,rfl⟩)|x)
  .have:=h.lt a b (.inl x);simp;omega
  .simp
  .have:=h.lt a b (.inr x);simp;omega
 .rintro a b (x|⟨rfl,rfl⟩)
  .exact h.low a b x
  .exact⟨aD,λz=>by omega⟩
 .rintro a b (x|⟨rfl,rfl⟩)
  .obtain⟨p,q,h1,h2,h3⟩:=h.cont a b x
   exact⟨p,q,by rw[Q7 (zbp h1)];rw[<-h1,nA],by rw[Q7 (zbp h2)];rw[<-h2,nA],h3.mono (Pr.le_add _ _ _)⟩
  .exact⟨o,o',aQ,aQ,ho.mono (Pr.le_add _ _ _)⟩
 .intro a b' ha nf
  have e:a≠w.heap.size:=λe=>nf _ (.inr ⟨e,rfl⟩);have hl:=(h.lt a b' (.inr ha)).1;have:=h.rest a b' ha (λb f=>nf b (.inl f));rw[Q7 hl,<-this,nA]
 .intro a sa
  obtain⟨⟨b,fa⟩,c,T,hi,h1,h2⟩:=h.st a sa;exact⟨⟨b,.inl fa⟩,c,T,hi,by rw[Q7 (zbp h1),<-h1,nA],h2⟩
 .rintro a b (x|⟨rfl,rfl⟩)
  .exact .inl x
  .exact .inr ⟨aZ _,aZ _⟩
 .intro b x y
  simp only[Array.size_push] at y;obtain rfl:b=W.heap.size:=aD;exact⟨_,.inr ⟨rfl,rfl⟩,aZ _⟩
 .intro b hb _
  rw[Q7 hb,nA]
 .intro a sa
  obtain⟨fa,c,T,hi,h1,h2⟩:=h.st a sa;rw[Q7 (zbp h1),nA]
 .intro a ha _
  rw[Q7 ha,nA]
def mL.draw (h:cT S K R G St w W):mL S K R G St w W R {w with drawn:=w.drawn+1} {W with drawn:=W.drawn+1}:=
 ⟨.refl R,h.ltR,⟨h.inj,h.inj',h.lt,h.low,h.gle,h.cont,h.rest,h.st,h.np,h.tb⟩,⟨rfl,rfl⟩,⟨1,rfl,rfl⟩,⟨rfl,rfl⟩,⟨rfl,rfl⟩,⟨aZ _,aZ _⟩,λ_ _ h=>.inl h,λb h1 h2=>absurd h2 rF,λ_ _ _=>rfl,λ_ _=>rfl,λ_ _ _=>rfl⟩
theorem Tp.step (h:Tp w W)(s:mL S K R G St w W R' w' W'):Tp w' W':=by
 obtain⟨d,d1,d2⟩:=s.drawn;intro n q;rw[s.tape.1,s.tape.2,d1,d2,Xg,Xg];exact h (d+n) q
end
def yZ (P:dI)(S:aN->Prop)(K:Pr){α β:Type}(A:Pr->α->β->Prop)(R:Pr)(G:Gp)(St:Nat->Prop)(w W:aE)(s':cS β)(x:α)(w':aE):Prop:=
 ∃R' x' W' ev,s'.run P.c W=.ok x' W'/\A R' x x'/\mL S K R G St w W R' w' W'/\(∀es,s'.events P.c W es=es++ev)/\∀e∈ev,Ft R' St e
variable {S:aN->Prop}{W w':aE}{e₁:Array Event}
theorem yZ.after {A:Pr->α->β->Prop}{zke:Pr}{G:Gp}{aI aV:aE}{s' s₁':cS β}{x:α}
 (vE:mL S K R G St w W zke aI aV) (hr:s'.run P.c W=s₁'.run P.c aV) (he:∀es,s'.events P.c W es=s₁'.events P.c aV (es++e₁)) (bV:∀e∈e₁,Ft zke St e) (h:yZ P S K A zke G St aI aV s₁' x w'):yZ P S K A R G St w W s' x w':=by
 obtain⟨R',x',W',ev,a,b,c,d,e⟩:=h;refine⟨R',x',W',e₁++ev,hr.trans a,b,vE.trans c,λes=>by rw[he,d,Array.append_assoc],λy hy=>?_⟩;rcases Array.mem_append.1 hy with hy|hy
 .exact(bV y hy).mono c.le
 .exact e y hy
theorem oA.shape {G:Gp}(h:cT S K R G St w W){r r':Nat}(x:R r r'):W.shape? r'=w.shape? r:=by
 obtain⟨o,o',h1,h2,h3⟩:=h.cont r r' x;unfold zb1;rw[h1,h2]
 cases h3 with
 |cells hc _=>simp[hc.1]
 |_=>rfl
theorem cT.orR {G:Gp}(h:cT S K R G St w W){a b:Nat}(x:R.or K a b):R a b\/w.heap[a]? =some oM:=by
 by_cases e:∃c,R a c
 .obtain⟨c,e⟩:=e
  exact .inl (h.inj a b c x (.inl e)▸e)
 .exact .inr (h.rest a b (x.resolve_left λy=>e ⟨b,y⟩) (λc y=>e ⟨c,y⟩))
theorem aG.run {A:Pr->α->β->Prop}{G:Gp}(hG:G=P.gp){x:α}(s:cS α):
 ∀{R:Pr} {w W:aE} {s':cS β},aG P S K A s R s'->cT S K R G St w W->Tp w W->s.run P.g w=.ok x w'->yZ P S K A R G St w W s' x w':=by
 induction s with
 |pure a=>
  rintro R w W s' (hn|⟨b,rfl,h⟩) hw ht hr
  .exact absurd hr (hn.no hw.np _ _)
  simp only[bD,Result.ok.injEq] at hr;obtain⟨rfl,rfl⟩:=hr;exact⟨R,b,W,#[],rfl,h,.refl hw,λes=>by unfold vV;rw[yV];simp,λe he=>by simp at he⟩
 |load m a k ih=>
  rintro R w W s' (hn|⟨rfl,a',k',rfl,ha,hk⟩) hw ht hr
  .exact absurd hr (hn.no hw.np _ _)
  obtain⟨qE⟩:=ha;rename_i b b' o sp
  .obtain⟨ob,xJ,h1,h2,h3⟩:=hw.cont b b' qE
   cases h3 with
   |cells hc hz=>
    rename_i c c' T fz Im
    cases sp with
    |some sp=>simp[bD,kY,h1,x4,qJ] at hr
    |none=>
     cases hv:c[o]? with
     |none=>simp[bD,kY,h1,x4,qJ,hv] at hr
     |some v=>
      obtain⟨v',Ni,vI⟩:=hc.get hv;have e1:w.cell? ⟨b,o,none⟩=some v:=by simp[kY,h1,hv]
      have e2:W.cell? ⟨b',o,none⟩=some v':=by simp[kY,h2,Ni]
      rw[bD,e1] at hr;refine yZ.after (e₁:=#[⟨.cell ⟨b',o,none⟩,false,false⟩]) (.refl hw) (by rw[bD,e2]) (λes=>by unfold vV;rw[yV,e2];simp[zsH]) ?_ (ih v (hk v v' vI) hw ht hr);intro e he;simp at he;subst he;exact .inr ⟨b',b,rfl,qE,aQ⟩
   |map x=>simp[bD,kY,h1,x4,qJ] at hr
   |chan x=>simp[bD,kY,h1,x4,qJ] at hr
   |stringIter x y=>simp[bD,kY,h1,x4,qJ] at hr
   |mapIter x=>simp[bD,kY,h1,x4,qJ] at hr
   |number x=>simp[bD,kY,h1,x4,qJ] at hr
 |store m a v k ih=>
  rintro R w W s' (hn|⟨rfl,a',v',k',rfl,ha,hv,hk⟩) hw ht hr
  .exact absurd hr (hn.no hw.np _ _)
  obtain⟨qE⟩:=ha;rename_i b b' o sp;have Mk:∀cs,v≠ .agg cs:=by rintro cs rfl;simp[bD] at hr
  have Bj:∀cs,v≠ .tuple cs:=by rintro cs rfl;simp[bD] at hr
  have zv9:∀cs,v'≠ .agg cs:=by rintro cs rfl;cases hv<;>first|exact Mk _ rfl|exact Bj _ rfl|(rename_i hh;exact hh.elim)
  have zxc:∀cs,v'≠ .tuple cs:=by rintro cs rfl;cases hv<;>first|exact Bj _ rfl|(rename_i hh;exact hh.elim)
  rw[bD] at hr
  rotate_left
  .exact λcs=>Mk cs
  .exact λcs=>Bj cs
  .obtain⟨ob,xJ,h1,h2,h3⟩:=hw.cont b b' qE
   cases h3 with
   |cells hc hz=>
    rename_i c c' T fz Im
    cases sp with
    |some sp=>simp[kY,h1,Cr,qJ] at hr
    |none=>
     cases eM:c[o]? with
     |none=>simp[kY,h1,Cr,qJ,eM] at hr
     |some v0=>
      obtain⟨zAr,zdz,_⟩:=hc.get eM;have e1:w.cell? ⟨b,o,none⟩=some v0:=by simp[kY,h1,eM]
      have e2:W.cell? ⟨b',o,none⟩=some zAr:=by simp[kY,h2,zdz]
      rw[e1] at hr;simp only at hr
      cases mH:w.frozen? ⟨b,o,none⟩ with
      |true=>rw[mH] at hr;simp at hr
      |false=>
       rw[mH] at hr;simp only[iU,if_false] at hr;have Ut:¬Ja fz o:=by
        intro⟨z1,z2⟩;simp[To,h1,z1,z2] at mH
       have yW:¬St b:=by
        intro hs;obtain⟨_,c2,T2,hi,g1,g2⟩:=hw.st b hs;rw[h1] at g1;injection g1 with g1;injection g1 with g1 _ g3;subst g1 g3;exact Ut ⟨lB _,lA (dM.1 eM).1 g2⟩
       have zuq:W.frozen? ⟨b',o,none⟩=false:=by
        simp only[To,h2]
        cases hq:(decide (Im.1<=o)&&decide (o<Im.2)) with
        |false=>rfl
        |true=>simp at hq;exact absurd (hz o hq) Ut
       rw[Y7 h1] at hr;refine yZ.after (e₁:=#[⟨.cell ⟨b',o,none⟩,true,false⟩]) (mL.upd hw qE yW (.cells (hc.set o hv) hz)) (s₁':=k') ?_ ?_ ?_ (ih hk (mL.upd hw qE yW (.cells (hc.set o hv) hz)).rel (ht.step (mL.upd hw qE yW (.cells (hc.set o hv) hz))) hr)
       .rw[bD]
        rotate_left
        .exact λcs=>zv9 cs
        .exact λcs=>zxc cs
        rw[e2];simp only[zuq,iU,if_false];rw[Y7 h2]
       .intro es
        unfold vV;rw[yV]
        rotate_left
        .exact λcs=>zv9 cs
        .exact λcs=>zxc cs
        rw[e2];simp only[zuq,iU,if_false];rw[Y7 h2];simp[zsH]
       .intro e he
        simp at he;subst he;exact .inr ⟨b',b,rfl,qE,λ_=>yW⟩
   |map x=>simp[kY,h1,Cr,qJ] at hr
   |chan x=>simp[kY,h1,Cr,qJ] at hr
   |stringIter x y=>simp[kY,h1,Cr,qJ] at hr
   |mapIter x=>simp[kY,h1,Cr,qJ] at hr
   |number x=>simp[kY,h1,Cr,qJ] at hr
 |new o k ih=>
  rintro R w W s' (hn|⟨o',k',rfl,ho,hk⟩) hw ht hr
  .exact absurd hr (hn.no hw.np _ _)
  rw[bD] at hr;exact yZ.after (e₁:=#[]) (mL.push hw ho) Nc (λes=>by unfold vV;rw[yV];simp) (λe he=>by simp at he) (ih _ (hk _ _ ⟨λb hb=>absurd (hw.lt _ _ hb).1 (Cb _),λa ha=>absurd (hw.lt _ _ ha).2 (Cb _),by subst hG;exact hw.gle⟩) (mL.push hw ho).rel (ht.step (mL.push hw ho)) hr)
 |shape r k ih=>
  rintro R w W s' (hn|⟨r',k',rfl,sD,hk⟩) hw ht hr
  .exact absurd hr (hn.no hw.np _ _)
  rw[bD] at hr;exact yZ.after (e₁:=#[]) (.refl hw) (by rw[bD,oA.shape hw sD]) (λes=>by unfold vV;rw[yV,oA.shape hw sD];simp) (λe he=>by simp at he) (ih _ (hk _) hw ht hr)
 |freeze a n k ih=>
  rintro R w W s' (hn|h) hw ht hr
  .exact absurd hr (hn.no hw.np _ _)
  .exact h.elim
 |frozen a k ih=>
  rintro R w W s' (hn|⟨r',k',rfl,hk⟩) hw ht hr
  .exact absurd hr (hn.no hw.np _ _)
  rw[bD] at hr;exact yZ.after (e₁:=#[]) (.refl hw) Nc (λes=>by unfold vV;rw[yV];simp) (λe he=>by simp at he) (ih _ (hk _ _) hw ht hr)
 |getObj r k ih=>
  rintro R w W s' (hn|⟨r',k',rfl,sD,hk⟩) hw ht hr
  .exact absurd hr (hn.no hw.np _ _)
  rw[bD] at hr
  .replace sD:R r r':=by
    rcases hw.orR sD with x|x
    .exact x
    .rw[x] at hr;simp[oM] at hr
   obtain⟨ob,xJ,h1,h2,h3⟩:=hw.cont r r' sD;rw[h1] at hr;have go:(∀c T fz,ob≠ .cells c T fz)->(∀c T fz,xJ≠ .cells c T fz)->yZ P S K A R G St w W (.getObj r' k') x w':=by
    intro n1 n2;refine yZ.after (e₁:=#[⟨.obj r',false,xJ.isChan⟩]) (.refl hw) (s₁':=k' xJ) ?_ ?_ ?_ (ih ob (hk _ _ h3) hw ht ?_)
    .rw[bD,h2];cases xJ<;>first|rfl|exact absurd rfl (n2 _ _ _)
    .intro es;unfold vV;rw[yV,h2];cases xJ<;>first|(simp;done)|exact absurd rfl (n2 _ _ _)
    .intro e he
     simp at he;subst he;exact .inr ⟨r',r,rfl,sD,aQ⟩
    .cases ob<;>first|exact hr|exact absurd rfl (n1 _ _ _)
   cases h3 with
   |cells hc hz=>simp at hr
   |map x=>exact go aQ aQ
   |chan x=>exact go aQ aQ
   |stringIter x y=>exact go aQ aQ
   |mapIter x=>exact go aQ aQ
   |number x=>exact go aQ aQ
 |setObj r o k ih=>
  rintro R w W s' (hn|⟨r',o',k',rfl,sD,ho,hk⟩) hw ht hr
  .exact absurd hr (hn.no hw.np _ _)
  rw[bD] at hr
  .replace sD:R r r':=by
    rcases hw.orR sD with x|x
    .exact x
    .rw[x] at hr;simp[oM] at hr
   obtain⟨ob,xJ,h1,h2,h3⟩:=hw.cont r r' sD;rw[h1] at hr;have go:(∀c T fz,ob≠ .cells c T fz)->(∀c T fz,xJ≠ .cells c T fz)->yZ P S K A R G St w W (.setObj r' o' k') x w':=by
    intro n1 n2;have yW:¬St r:=by
     intro hs;obtain⟨_,c2,T2,hi,g1,g2⟩:=hw.st r hs;rw[h1] at g1;injection g1 with g1;exact n1 _ _ _ g1
    refine yZ.after (e₁:=#[⟨.obj r',true,o'.isChan⟩]) (mL.upd hw sD yW ho) (s₁':=k') ?_ ?_ ?_ (ih hk (mL.upd hw sD yW ho).rel (ht.step (mL.upd hw sD yW ho)) ?_)
    .rw[bD,h2];cases xJ<;>first|rfl|exact absurd rfl (n2 _ _ _)
    .intro es;unfold vV;rw[yV,h2];cases xJ<;>first|(simp;done)|exact absurd rfl (n2 _ _ _)
    .intro e he
     simp at he;subst he;exact .inr ⟨r',r,rfl,sD,λ_=>yW⟩
    .cases ob<;>first|exact hr|exact absurd rfl (n1 _ _ _)
   cases h3 with
   |cells hc hz=>simp at hr
   |map x=>exact go aQ aQ
   |chan x=>exact go aQ aQ
   |stringIter x y=>exact go aQ aQ
   |mapIter x=>exact go aQ aQ
   |number x=>exact go aQ aQ
 |choose q k ih=>
  rintro R w W s' (hn|⟨k',rfl,hk⟩) hw ht hr
  .exact absurd hr (hn.no hw.np _ _)
  rw[bD] at hr
  cases hq:q.forced with
  |true=>
   rw[hq] at hr;simp only[if_true] at hr;exact yZ.after (e₁:=#[]) (.refl hw) (by rw[bD,hq];simp) (λes=>by unfold vV;rw[yV,hq];simp) (λe he=>by simp at he) (ih 0 (hk 0) hw ht hr)
  |false=>
   rw[hq] at hr;simp only[iU,if_false] at hr;have ea:w.tape w.drawn q=W.tape W.drawn q:=ht 0 q;rw[ea] at hr;exact yZ.after (e₁:=#[]) (mL.draw hw) (by rw[bD,hq];simp) (λes=>by unfold vV;rw[yV,hq];simp) (λe he=>by simp at he) (ih _ (hk _) (mL.draw hw).rel (ht.step (mL.draw hw)) hr)
 |sys c k ih=>
  rintro R w W s' (hn|h) hw ht hr
  .exact absurd hr (hn.no hw.np _ _)
  .exact h.elim
 |program k ih=>
  rintro R w W s' (hn|⟨k',rfl,hk⟩) hw ht hr
  .exact absurd hr (hn.no hw.np _ _)
  rw[bD] at hr;exact yZ.after (e₁:=#[]) (.refl hw) Nc (λes=>by unfold vV;rw[yV];simp) (λe he=>by simp at he) (ih _ hk hw ht hr)
 |mark m k ih=>
  rintro R w W s' (hn|⟨rfl,k',rfl,hk⟩) hw ht hr
  .exact absurd hr (hn.no hw.np _ _)
  .rw[bD] at hr
   exact yZ.after (e₁:=#[⟨.mark .noRoom,false,true⟩]) (.refl hw) Nc (λes=>by unfold vV;rw[yV];simp) (λe he=>by simp at he;exact .inl he) (ih hk hw ht hr)
 |halt h=>rintro R w W s' _ hw ht hr;simp[bD] at hr
section
variable {P:dI}{S:aN->Prop}{K:Pr}{α β γ δ:Type}{R:Pr}
abbrev lN {α:Type}:Pr->α->α->Prop:=λ_ a b=>a=b
abbrev VA (S:aN->Prop)(K:Pr):Pr->aF->aF->Prop:=λR v v'=>VR S K R v v'
def aG.bnd {A:Pr->α->β->Prop}{B:Pr->γ->δ->Prop}{s:cS α}{s':cS β}{f:α->cS γ}{f':β->cS δ}(h:aG P S K A s R s')(hf:∀R',xH P K R R'->∀a b,A R' a b->aG P S K B (f a) R' (f' b)):
 aG P S K B (s>>=f) R (s'>>=f'):=aG.bind h hf
def aG.ret {A:Pr->α->β->Prop}{a:α}{b:β}(h:A R a b):aG P S K A (kE a:cS α) R (kE b:cS β):=aG.pure h
def bM {Q0:String}:eW P (stuck Q0:cS α):=eW.halt trivial
variable {u:Unsupported}
theorem kV (hu:Yw (.unsupported u):=by trivial):eW P (unsupported u:cS α):=eW.halt hu
variable {v:aF}
def ze3 :eW P (goPanic v:cS α):=eW.halt trivial
def eW.bnd {s:cS α}(h:eW P s)(f:α->cS β):eW P (s>>=f):=h.bind f
def mV (P:dI)(s:cS α):Prop:=∀w,Bx w->(∃a w',s.run P.g w=.ok a w'/\Bx w')\/∃h w',s.run P.g w=.halt h w'/\Yw h
def mV.never {s:cS α}(h:eW P s):mV P s:=λw hw=>.inr (h w hw)
def mV.ret (a:α):mV P (kE a:cS α):=λw hw=>.inl ⟨a,w,rfl,hw⟩
theorem mV.bnd {s:cS α}{f:α->cS β}(h:mV P s)(hf:∀a,mV P (f a)):mV P (s>>=f):=by
 intro w hw;have e:(s>>=f).run P.g w=_:=q9 P.g s f w;rcases h w hw with⟨a,w',h1,h2⟩|⟨y,w',h1,h2⟩
 .rcases hf a w' h2 with⟨b,w2,h3,h4⟩|⟨y,w2,h3,h4⟩
  .exact .inl ⟨b,w2,by rw[e,h1];exact h3,h4⟩
  .exact .inr ⟨y,w2,by rw[e,h1];exact h3,h4⟩
 .exact .inr ⟨y,w',by rw[e,h1];rfl,h2⟩
def ziK:mV P program:=λw hw=>.inl ⟨P.g,w,rfl,hw⟩
theorem zjF (q:Question):mV P (choose q):=λw hw=>by
 unfold choose bD;split
 .exact .inl ⟨0,w,rfl,hw⟩
 .exact .inl ⟨_,_,rfl,hw⟩
def zDZ (r:Nat):mV P (shape r):=λw hw=>.inl ⟨_,w,rfl,hw⟩
variable {o:sY}
def zDc (ho:∀c e,o≠ .pending c e):mV P (newObj o):=λw hw=>.inl ⟨_,_,rfl,Bx.push hw ho⟩
theorem zzk (t:aM):mV P (underlying t):=by
 unfold underlying;refine ziK.bnd λp=>?_;split
 .exact mV.ret _
 .exact .never bM
theorem zyu (t:aM)(v:aF):mV P (newVar t v):=by
 unfold newVar newRow;exact(zDc aQ).bnd λ_=>mV.ret _
theorem zAm (t:aM):mV P (elemOf t):=by
 unfold elemOf;refine(zzk t).bnd λd=>?_;split
 .exact mV.ret _
 .exact .never bM
def zzx (a:bO):mV P (frozen a):=λw hw=>.inl ⟨_,w,rfl,hw⟩
def zBP (m:Mark):mV P (mark m):=λw hw=>.inl ⟨_,w,rfl,hw⟩
theorem znN (a:bO)(n:Nat):mV P (zjm a n):=by
 unfold zjm;refine(zDZ _).bnd λx=>?_;split<;>exact mV.ret _
theorem zyO (size zbj n:Nat)(base:Option bO)(x:aF):mV P (ztD size zbj n base x):=by
 unfold ztD;have tail:∀b:Bool,mV P (match x with
  | .slice (some b) _ _=>do pure (!(<-zjm b (n*size))||base.any (·.block==b.block))
  |_=>pure false:cS Bool):=λ_=>by
  split
  .exact(znN _ _).bnd λ_=>mV.ret _
  .exact mV.ret _
 cases base with
 |none=>
  refine(mV.ret true).bnd λthere=>?_;cases there
  .exact mV.ret _
  .exact tail true
 |some a=>
  refine(znN _ _).bnd λh1=>(zzx _).bnd λh2=>?_;refine(mV.ret _).bnd λthere=>?_;cases there
  .exact mV.ret _
  .exact tail true
theorem eW.then {s:cS α}{f:α->cS β}(hs:mV P s)(h:∀a,eW P (f a)):eW P (s>>=f):=by
 intro w hw;have e:(s>>=f).run P.g w=_:=q9 P.g s f w;rcases hs w hw with⟨a,w',h1,h2⟩|⟨y,w',h1,h2⟩
 .obtain⟨y,w2,h3,h4⟩:=h a w' h2
  exact⟨y,w2,by rw[e,h1];exact h3,h4⟩
 .exact⟨y,w',by rw[e,h1];rfl,h2⟩
variable {e:RuntimeError}
theorem uR :eW P (runtimePanic e:cS α):=by
 unfold runtimePanic;refine eW.then ziK λp=>?_;cases e<;>first|exact ze3|(refine eW.then (zAm _) λ_=>?_;refine eW.then (zyu _ _) λ_=>?_;exact ze3)
theorem V5 {k:E8}{x y:Int}{c:zlH}:eW P (boundsPanic k x y c:cS α):=by
 unfold boundsPanic;simp only;split
 .refine eW.then ?_ λ_=>uR
  exact(zjF _).bnd λ_=>mV.ret _
 .exact eW.then (mV.ret _) λ_=>uR
def Sp:aG P S K (λ_ a b=>a=P.g/\b=P.c) program R program:=.inr ⟨_,rfl,.inr ⟨P.c,rfl,rfl,rfl⟩⟩
def zf3 (q:Question):aG P S K lN (choose q) R (choose q):=.inr ⟨_,rfl,λn=>.inr ⟨n,rfl,rfl⟩⟩
theorem lU (t:aM):aG P S K (λ_ a b=>a=b/\P.underlying t=some a) (underlying t) R (underlying t):=by
 unfold underlying;refine aG.bnd Sp ?_;rintro R' _ a b ⟨ha,hb⟩;rw[ha,hb,P.underlying_g]
 cases h:P.c.underlying t with
 |some d=>exact aG.ret ⟨rfl,h⟩
 |none=>exact .inl bM
theorem Dj (t:aM):aG P S K (λ_ a b=>a=b/\P.info? t=some a) (typeInfo t) R (typeInfo t):=by
 unfold typeInfo;refine aG.bnd Sp ?_;rintro R' _ a b ⟨ha,hb⟩;rw[ha,hb,P.info_g]
 cases h:P.c.info? t with
 |some d=>exact aG.ret ⟨rfl,h⟩
 |none=>exact .inl bM
def Hl (P:dI)(S:aN->Prop):Prop:=∀(K R:Pr) t i z,P.info? t=some i->i.zero=some z->VR S K R z z
theorem O7 (hz:Hl P S)(t:aM):aG P S K (VA S K) (zeroValue t) R (zeroValue t):=by
 unfold zeroValue;refine aG.bnd (Dj t) ?_;rintro R' _ a b ⟨rfl,h⟩
 cases h2:a.zero with
 |some z=>exact aG.ret (hz K R' t a z h h2)
 |none=>exact .inl kV
theorem Ab (t:aM):aG P S K lN (sizeOf t) R (sizeOf t):=by
 unfold sizeOf;refine aG.bnd (Dj t) ?_;rintro R' _ a b ⟨rfl,h⟩;exact aG.ret rfl
theorem zsL (t:aM):aG P S K lN (isAgg t) R (isAgg t):=by
 unfold isAgg;refine aG.bnd (lU t) ?_;rintro R' _ a b ⟨rfl,h⟩;cases a<;>exact aG.ret rfl
variable {v':aF}
theorem zgV (h:VR S K R v v'):aG P S K lN (asIntOf v) R (asIntOf v'):=by
 cases h with
 |int k n=>exact aG.ret rfl
 |pointer x=>cases x<;>first|exact .inl kV|exact .inl bM
 |_=>exact .inl bM
theorem Vg (h:VR S K R v v'):aG P S K lN (asInt v) R (asInt v'):=by
 unfold asInt;refine aG.bnd (zgV h) ?_;rintro R' _ a b rfl;exact aG.ret rfl
theorem zEs (h:VR S K R v v'):aG P S K lN (asBool v) R (asBool v'):=by
 cases h with
 |bool b=>exact aG.ret rfl
 |_=>exact .inl bM
theorem zrH (h:VR S K R v v'):aG P S K (λR a b=>fM R a b) (asAddr v) R (asAddr v'):=by
 cases h with
 |pointer x=>
  cases x with
  |none=>exact .inl (by unfold asAddr;exact uR)
  |some x=>exact aG.ret x
 |_=>exact .inl bM
theorem zcr (h:VR S K R v v'):aG P S K (λR a b=>fM R a b) (zuy v) R (zuy v'):=by
 cases h with
 |pointer x=>
  cases x with
  |none=>exact .inl bM
  |some x=>exact aG.ret x
 |_=>exact .inl bM
variable {a a':bO}
def zqx (h:fM R a a'):aG P S K (VA S K) (load a) R (load a'):=.inr ⟨rfl,a',_,rfl,h,λv v' hv=>.inr ⟨v',rfl,hv⟩⟩
def zHm (h:fM R a a')(hv:VR S K R v v'):aG P S K lN (store a v) R (store a' v'):=.inr ⟨rfl,a',v',_,rfl,h,hv,.inr ⟨(),rfl,rfl⟩⟩
variable {o':sY}
def zcV (h:oA S K R o o'):aG P S K (λR a b=>R a b) (newObj o) R (newObj o'):=.inr ⟨o',_,rfl,h,λn n' _=>.inr ⟨n',rfl,.inr ⟨rfl,rfl⟩⟩⟩
variable {r r':Nat}
def Z9 (h:R r r'):aG P S K lN (shape r) R (shape r'):=.inr ⟨r',_,rfl,h,λx=>.inr ⟨x,rfl,rfl⟩⟩
def Sw (h:R r r'):aG P S K (λR o o'=>oA S K R o o') (getObj r) R (getObj r'):=.inr ⟨r',_,rfl,.inl h,λo o' ho=>.inr ⟨o',rfl,ho⟩⟩
def zaz (h:R r r')(ho:oA S K R o o'):aG P S K lN (setObj r o) R (setObj r' o'):=.inr ⟨r',o',_,rfl,.inl h,ho,.inr ⟨(),rfl,rfl⟩⟩
def zrB (h:R.or K r r'):aG P S K (λR o o'=>oA S K R o o') (getObj r) R (getObj r'):=.inr ⟨r',_,rfl,h,λo o' ho=>.inr ⟨o',rfl,ho⟩⟩
theorem zjj (n:Nat):aG P S K lN (askRoom n) R (askRoom n):=by
 unfold askRoom;split
 .exact .inr ⟨rfl,_,rfl,.inr ⟨(),rfl,rfl⟩⟩
 .exact aG.ret rfl
theorem fM.add (h:fM R a a')(n:Nat):fM R (a.add n) (a'.add n):=by
 cases h with
 |mk h=>unfold zdT;split<;>exact .mk h
theorem wX.map {a a':Option bO}(h:wX R a a')(n:Nat):wX R (a.map (·.add n)) (a'.map (·.add n)):=by
 cases h with
 |none=>exact .none
 |some h=>exact .some (h.add n)
theorem zp1 :∀(n i:Nat) {R:Pr} {acc zey:Array aF},fM R a a'->bK S K R acc zey->aG P S K (λR x y=>bK S K R x y) (loadCellsFrom a i n acc) R (loadCellsFrom a' i n zey)
 |0,i,R,acc,zey,h,hc=>aG.ret hc
 |n+1,i,R,acc,zey,h,hc=>by
  unfold loadCellsFrom;refine aG.bnd (zqx (h.add i)) ?_;intro R' hR v v' hv;exact zp1 n (i+1) (h.mono hR.le) ((hc.mono hR.le).push hv)
def zkO (h:fM R a a')(n:Nat):aG P S K (λR x y=>bK S K R x y) (loadCells a n) R (loadCells a' n):=zp1 n 0 h bK.empty
def xN (S:aN->Prop)(K R:Pr)(xs bX:List aF):Prop:=xs.length=bX.length/\∀(i:Nat) (v v':aF),xs[i]? =some v->bX[i]? =some v'->VR S K R v v'
theorem bK.toList {xs bX:Array aF}(h:bK S K R xs bX):xN S K R xs.toList bX.toList:=⟨by simpa using h.1,λi v v' h1 h2=>h.2 i v v' Qb Qz⟩
variable {xs bX:List aF}
def xN.mono {R':Pr}(hR:R.le R')(h:xN S K R xs bX):xN S K R' xs bX:=⟨h.1,λi v v' h1 h2=>(h.2 i v v' h1 h2).mono hR⟩
theorem xN.cons {x x':aF}(h:xN S K R (x::xs) (x'::bX)):VR S K R x x'/\xN S K R xs bX:=
 ⟨h.2 0 x x' rfl rfl,by simpa using h.1,λi v v' h1 h2=>h.2 (i+1) v v' Qb Qz⟩
theorem U4 :∀(vs zc9:List aF) (i:Nat) {R:Pr},fM R a a'->xN S K R vs zc9->aG P S K lN (storeCells a vs i) R (storeCells a' zc9 i)
 |[],[],i,R,h,hv=>aG.ret rfl
 |[],_::_,i,R,h,hv=>by have:=hv.1;simp at this
 |_::_,[],i,R,h,hv=>by have:=hv.1;simp at this
 |v::vs,v'::zc9,i,R,h,hv=>by
  unfold storeCells;obtain⟨h1,h2⟩:=hv.cons;refine aG.bnd (zHm (h.add i) h1) ?_;intro R' hR _ _ _;exact U4 vs zc9 (i+1) (h.mono hR.le) (h2.mono hR.le)
theorem zqI (t:aM)(h:fM R a a'):aG P S K (VA S K) (loadVar t a) R (loadVar t a'):=by
 unfold loadVar;refine aG.bnd (zsL t) ?_;rintro R1 h1 b _ rfl
 cases b with
 |true=>
  simp only[if_true];refine aG.bnd (Ab t) ?_;rintro R2 h2 n _ rfl;refine aG.bnd (zkO ((h.mono h1.le).mono h2.le) n) ?_;intro R3 h3 x y zA3;exact aG.ret (VR.agg' zA3)
 |false=>simpa using zqx (h.mono h1.le)
theorem zJe (t:aM)(h:fM R a a')(hv:VR S K R v v'):aG P S K lN (storeVar t a v) R (storeVar t a' v'):=by
 unfold storeVar;refine aG.bnd (Ab t) ?_;rintro R1 h1 n _ rfl;have hc:=hv.cells;rw[<-hc.1];split
 .exact .inl (bM.bnd _)
 .exact U4 _ _ 0 (h.mono h1.le) ((hc.mono h1.le).toList)
variable {c c':Array aF}
theorem zaT (e:aM)(h:bK S K R c c'):aG P S K (λR a b=>fM R a b) (newRow e c) R (newRow e c'):=by
 unfold newRow;refine aG.bnd (zcV (.cells h λo ho=>ho)) ?_;intro R1 h1 n n' hn;exact aG.ret (.mk hn)
def zrc (t:aM)(h:VR S K R v v'):aG P S K (λR a b=>fM R a b) (newVar t v) R (newVar t v'):=zaT t h.cells
theorem zzG (t:aM)(h:bK S K R c c')(off:Nat):aG P S K (VA S K) (part t c off) R (part t c' off):=by
 unfold part;refine aG.bnd (zsL t) ?_;rintro R1 h1 b _ rfl
 cases b with
 |true=>
  simp only[if_true];refine aG.bnd (Ab t) ?_;rintro R2 h2 n _ rfl;exact aG.ret (VR.agg' (((h.mono h1.le).mono h2.le).extract _ _))
 |false=>
  simp only[iU,if_false]
  cases hc:c[off]? with
  |none=>exact .inl bM
  |some v=>obtain⟨v',Ni,vI⟩:=(h.mono h1.le).get hc;rw[Ni];exact aG.ret vI
end
section
variable {P:dI}{S:aN->Prop}{K:Pr}{α β γ δ:Type}{R:Pr}
theorem zJk (hz:Hl P S)(e:aM):aG P S K (VA S K) (zim e true (.tuple #[])) R (zim e true (.tuple #[])):=by
 unfold zim;refine aG.bnd (O7 hz e) ?_;intro R1 h1 z z' pD;refine aG.bnd (zrc e pD) ?_;intro R2 h2 a a' ha;exact aG.ret (.pointer (.some ha))
variable {v v':aF}
theorem zxG (e:aM)(h:VR S K R v v'):aG P S K (VA S K) (zkF e v) R (zkF e v'):=by
 unfold zkF;refine aG.bnd (zrc e h) ?_;intro R2 h2 a a' ha;exact aG.ret (.pointer (.some ha))
theorem zCs (t:aM)(h:VR S K R v v'):aG P S K (VA S K) (zj9 t v) R (zj9 t v'):=by
 unfold zj9;refine aG.bnd (zcr h) ?_;intro R1 h1 a a' ha;exact zqI t ha
theorem zxN (t:aM){a a':aF}(h:VR S K R a a')(hv:VR S K R v v'):aG P S K lN (zmt t a v) R (zmt t a' v'):=by
 unfold zmt;refine aG.bnd (zcr h) ?_;intro R1 h1 a a' ha;exact zJe t ha (hv.mono h1.le)
theorem zw1 {r r':Nat}(h:R r r'):aG P S K (λ_ a b=>a=none/\b=none) (viewAt r) R (viewAt r'):=by
 unfold viewAt;refine aG.bnd (Z9 h) ?_;rintro R1 h1 x _ rfl
 cases x with
 |some x=>exact aG.ret ⟨rfl,rfl⟩
 |none=>
  refine aG.bnd (Sw (h1.le _ _ h)) ?_;intro R2 h2 o o' ho;cases ho<;>exact aG.ret ⟨rfl,rfl⟩
variable {a a':bO}
theorem zzz (h:fM R a a'):aG P S K lN (noView a) R (noView a'):=by
 cases h with
 |mk h=>
  unfold noView;refine aG.bnd (zw1 h) ?_;rintro R1 h1 _ _ ⟨rfl,rfl⟩;exact aG.ret rfl
theorem S8 (h:fM R a a'):aG P S K lN (byteOf a) R (byteOf a'):=by
 have h0:=h
 cases h with
 |mk h=>
  rename_i b b' o sp;unfold byteOf
  cases sp with
  |some s=>exact aG.ret rfl
  |none=>
   refine aG.bnd Sp ?_;rintro R1 h1 p q ⟨rfl,rfl⟩;refine aG.bnd (zzz (h0.mono h1.le)) ?_;rintro R2 h2 _ _ _;refine aG.bnd (Z9 (h2.le _ _ (h1.le _ _ h))) ?_;rintro R3 h3 x _ rfl
   cases x with
   |none=>exact .inl bM
   |some x=>
    obtain⟨e,n⟩:=x;simp only[P.cells_g,P.bytes_g,P.depth_g,P.byteOfCell_g];split
    .exact aG.ret rfl
    .split
     .exact aG.ret rfl
     .exact .inl bM
theorem zHC (h:fM R a a')(c b:Nat):aG P S K (λR a b=>fM R a b) (partAt a c b) R (partAt a' c b):=by
 unfold partAt;refine aG.bnd (S8 h) ?_;rintro R1 h1 n _ rfl;have h':=h.mono h1.le
 cases h' with
 |mk h'=>
  refine aG.bnd (S8 (.mk h')) ?_;rintro R2 h2 m _ rfl;split<;>exact aG.ret (.mk (h2.le _ _ h'))
theorem zEc (h:fM R a a')(f:Field):aG P S K (λR a b=>fM R a b) (fieldPlace a f) R (fieldPlace a' f):=by
 unfold fieldPlace;refine aG.bnd (Ab f.type) ?_;rintro R1 h1 n _ rfl;split
 .exact zHC (h.mono h1.le) _ _
 .exact aG.ret ((h.mono h1.le).add _)
theorem zEf (s:aM)(h:VR S K R v v')(f:Nat):aG P S K (VA S K) (zlA s v f) R (zlA s v' f):=by
 unfold zlA;refine aG.bnd (lU s) ?_;rintro R1 h1 d _ ⟨rfl,hd⟩
 cases d with
 |struct fields=>
  simp only
  cases hf:fields[f]? with
  |none=>exact .inl bM
  |some fl=>
   refine aG.bnd (zcr (h.mono h1.le)) ?_;intro R2 h2 a a' ha;refine aG.bnd (zEc ha fl) ?_;intro R3 h3 b b' hb;exact aG.ret (.pointer (.some hb))
 |_=>exact .inl bM
def zku (t:aM)(k:E8)(i:Int)(b:Option bO)(len:Nat)(elem:aM):cS Value:=do
 let tiny:=len<=1&&(match<-underlying t with| .array .. =>true|_=>false)
 match b with
 |some a=>
  if 0<=i/\i<len then pure (.pointer (some (a.add (i.toNat*(<-sizeOf elem)))))
  else if tiny then unsupported (.noEntry "op/indexAddr.an index out of range at an array of length 0 or 1 (ledger 616)")
  else boundsPanic k i len .index
 |none=>boundsPanic k i 0 .index
theorem zqQ (t:aM)(k:E8)(i:Int){b b':Option bO}(h:wX R b b')(len:Nat)(elem:aM):aG P S K (VA S K) (zku t k i b len elem) R (zku t k i b' len elem):=by
 unfold zku;refine aG.bnd (lU t) ?_;rintro R3 h3 d _ ⟨rfl,hd⟩;have bY:=h.mono h3.le
 cases bY with
 |none=>exact .inl V5
 |some ha=>
  simp only;split
  .refine aG.bnd (Ab elem) ?_
   rintro R4 h4 sz _ rfl;exact aG.ret (.pointer (.some ((ha.mono h4.le).add _)))
  .refine .inl ?_
   split<;>first|exact kV|exact V5|(split<;>first|exact kV|exact V5)
theorem zFF (t:aM){i i':aF}(h:VR S K R v v')(hi:VR S K R i i'):aG P S K (VA S K) (zir t v i) R (zir t v' i'):=by
 unfold zir;refine aG.bnd (zgV hi) ?_;rintro R1 h1 ⟨k,n⟩ _ rfl;refine aG.bnd (lU t) ?_;rintro R2 h2 d _ ⟨rfl,hd⟩;have hv:=(h.mono h1.le).mono h2.le
 cases d with
 |array len elem=>
  refine aG.bnd (zcr hv) ?_;intro R3 h3 a a' ha;exact zqQ t k n (.some ha) len elem
 |slice elem=>
  cases hv with
  |slice ho=>exact zqQ t k n ho _ elem
  |_=>exact .inl (bM.bnd _)
 |_=>exact .inl (bM.bnd _)
theorem zCB (t:aM){i i':aF}(h:VR S K R v v')(hi:VR S K R i i'):aG P S K (VA S K) (zm0 t v i) R (zm0 t v' i'):=by
 unfold zm0;refine aG.bnd (zgV hi) ?_;rintro R1 h1 ⟨k,n⟩ _ rfl;refine aG.bnd (lU t) ?_;rintro R2 h2 d _ ⟨rfl,hd⟩;have hv:=(h.mono h1.le).mono h2.le
 cases d with
 |array len elem=>
  cases hv with
  |agg e hc=>
   simp only;split
   .refine aG.bnd (Ab elem) ?_
    rintro R3 h3 sz _ rfl;exact zzG elem (bK.mono h3.le ⟨e,hc⟩) _
   .exact .inl V5
  |_=>exact .inl bM
 |string=>
  cases hv with
  |string s=>
   simp only;split
   .exact aG.ret (.int _ _)
   .exact .inl V5
  |_=>exact .inl bM
 |_=>exact .inl bM
theorem zbo (h:VR S K R v v')(y:Nat)(c:zlH):aG P S K lN (Lg v y c) R (Lg v' y c):=by
 unfold Lg;refine aG.bnd (zgV h) ?_;rintro R1 h1 ⟨k,n⟩ _ rfl;simp only;split
 .exact aG.ret rfl
 .exact .inl V5
inductive yT (S:aN->Prop)(K R:Pr):Option aF->Option aF->Prop
 |none:yT S K R none none
 |some {v v':aF}:VR S K R v v'->yT S K R (some v) (some v')
theorem yT.mono {R':Pr}(h:R.le R'){v v':Option aF}(x:yT S K R v v'):yT S K R' v v':=by cases x with|none=>exact .none|some x=>exact .some (x.mono h)
variable {y4 iY Uh:Option aF}
theorem zeX (b:Bool)(len cap:Nat){lo hi mx:Option aF}(hl:yT S K R lo y4)(hh:yT S K R hi iY)(hm:yT S K R mx Uh):
 aG P S K lN (Xp b len cap lo hi mx) R (Xp b len cap y4 iY Uh):=by
 have nd:∀{R1:Pr},xH P K R R1->∀(m h:Nat) (c:zlH),aG P S K (lN (α:=Nat×Nat×Nat)) (match lo with|some v=>(do let l<-Lg v h c;pure (l,h,m))|none=>pure (0,h,m)) R1 (match y4 with|some v=>(do let l<-Lg v h c;pure (l,h,m))|none=>pure (0,h,m)):=by
  intro R1 h1 m h c
  cases hl with
  |none=>exact aG.ret rfl
  |some z=>
   refine aG.bnd (zbo (z.mono h1.le) h c) ?_;rintro R2 h2 l _ rfl;exact aG.ret rfl
 unfold Xp
 cases hm with
 |none=>
  cases hh with
  |none=>cases hl with
   |none=>exact aG.ret rfl
   |some z=>exact nd (xH.refl R) cap len (if(none:Option aF).isSome then .slice3C else .sliceB)
  |some x=>
   refine aG.bind (α:=Nat) (A:=lN) (s:=Lg _ cap (if b then .sliceAcap else .sliceAlen)) (s':=Lg _ cap (if b then .sliceAcap else .sliceAlen)) (zbo x _ _) ?_;rintro R2 h2 h _ rfl
   cases hl with
   |none=>exact aG.ret rfl
   |some z=>exact nd h2 cap h (if(none:Option aF).isSome then .slice3C else .sliceB)
 |some y=>
  refine aG.bnd (zbo y _ _) ?_;rintro R1 h1 m _ rfl
  cases hh with
  |none=>exact .inl (bM.bnd _)
  |some x=>
   refine aG.bnd (zbo (x.mono h1.le) _ _) ?_;rintro R2 h2 h _ rfl
   cases hl with
   |none=>exact aG.ret rfl
   |some z=>
    refine aG.bnd (zbo ((z.mono h1.le).mono h2.le) _ _) ?_;rintro R3 h3 l _ rfl;exact aG.ret rfl
theorem zzY (t:aM){lo hi mx:Option aF}(h:VR S K R v v')(hl:yT S K R lo y4)(hh:yT S K R hi iY)(hm:yT S K R mx Uh):
 aG P S K (VA S K) (Ub t v lo hi mx) R (Ub t v' y4 iY Uh):=by
 unfold Ub;refine aG.bnd (lU t) ?_;rintro R1 h1 d _ ⟨rfl,hd⟩;have hv:=h.mono h1.le
 cases d with
 |string=>
  cases hv with
  |string s=>
   simp only
   cases hm with
   |some y=>exact .inl (bM.bnd _)
   |none=>
    refine aG.bnd (zeX _ _ _ (hl.mono h1.le) (hh.mono h1.le) .none) ?_;rintro R2 h2 ⟨l,h,m⟩ _ rfl;exact aG.ret (.string _)
  |_=>exact .inl bM
 |slice elem=>
  cases hv with
  |slice ho=>
   refine aG.bnd (zeX _ _ _ (hl.mono h1.le) (hh.mono h1.le) (hm.mono h1.le)) ?_;rintro R2 h2 ⟨l,h,m⟩ _ rfl;refine aG.bnd (Ab elem) ?_;rintro R3 h3 sz _ rfl;refine aG.ret (.slice ?_);split
   .exact(ho.mono h2.le).mono h3.le
   .exact((ho.mono h2.le).mono h3.le).map _
  |_=>exact .inl bM
 |pointer arr=>
  refine aG.bnd (zrH hv) ?_;intro R2 h2 a a' ha;refine aG.bnd (lU arr) ?_;rintro R3 h3 d _ ⟨rfl,hd⟩
  cases d with
  |array n elem=>
   refine aG.bnd (zeX _ _ _ (((hl.mono h1.le).mono h2.le).mono h3.le) (((hh.mono h1.le).mono h2.le).mono h3.le) (((hm.mono h1.le).mono h2.le).mono h3.le)) ?_;rintro R4 h4 ⟨l,h,m⟩ _ rfl;refine aG.bnd (Ab elem) ?_;rintro R5 h5 sz _ rfl;refine aG.ret (.slice (.some ?_));have fF:=((ha.mono h3.le).mono h4.le).mono h5.le;split
   .exact fF
   .exact fF.add _
  |_=>exact .inl bM
 |_=>exact .inl bM
theorem zIe (t:aM){lo hi mx:Option aF}(h:VR S K R v v')(hl:yT S K R lo y4)(hh:yT S K R hi iY)(hm:yT S K R mx Uh):
 aG P S K (VA S K) (Ui t v lo hi mx) R (Ui t v' y4 iY Uh):=by
 unfold Ui;refine aG.bnd (lU t) ?_;rintro R1 h1 d _ ⟨rfl,hd⟩
 cases d with
 |array n elem=>
  refine aG.bnd (zcr (h.mono h1.le)) ?_;intro R2 h2 a a' ha;refine aG.bnd (zeX _ _ _ ((hl.mono h1.le).mono h2.le) ((hh.mono h1.le).mono h2.le) ((hm.mono h1.le).mono h2.le)) ?_;rintro R4 h4 ⟨l,h,m⟩ _ rfl;refine aG.bnd (Ab elem) ?_;rintro R5 h5 sz _ rfl;refine aG.ret (.slice (.some ?_));have fF:=(ha.mono h4.le).mono h5.le;split
  .exact fF
  .exact fF.add _
 |_=>exact zzY t (h.mono h1.le) (hl.mono h1.le) (hh.mono h1.le) (hm.mono h1.le)
theorem zCG (h:VR S K R v v')(i:Nat):aG P S K (VA S K) (ziC v i) R (ziC v' i):=by
 unfold ziC
 cases h with
 |tuple e hc=>
  rename_i xs bX;simp only
  cases hq:xs[i]? with
  |none=>exact .inl bM
  |some u=>
   obtain⟨u',Lw,Z0⟩:=bK.get ⟨e,hc⟩ hq;rw[Lw];exact aG.ret Z0
 |_=>exact .inl bM
theorem zEH (t:aM){r r':Option aF}(h:yT S K R r r'):aG P S K (VA S K) (zif t r) R (zif t r'):=by
 have fin:∀{R1:Pr},aG P S K (VA S K) (do pure (.map (some (<-newObj (.map #[] 0))))) R1 (do pure (.map (some (<-newObj (.map #[] 0))))):=by
  intro R1;refine aG.bnd (zcV (.map ⟨rfl,λi e e' h=>by simp at h⟩)) ?_;intro R2 h2 n n' hn;exact aG.ret (.map (.some hn))
 unfold zif
 cases h with
 |none=>exact fin
 |some x=>
  refine aG.bnd (lU t) ?_;rintro R1 h1 d _ ⟨rfl,hd⟩
  cases d with
  |map k e=>
   refine aG.bnd (Vg (x.mono h1.le)) ?_;rintro R2 h2 n _ rfl;exact fin
  |_=>exact .inl (bM.bnd _)
theorem zyh (t:aM)(h:VR S K R v v'):aG P S K (VA S K) (zg6 t v) R (zg6 t v'):=by
 unfold zg6;refine aG.bnd (Vg h) ?_;rintro R1 h1 n _ rfl;refine aG.bnd (lU t) ?_;rintro R2 h2 d _ ⟨rfl,hd⟩
 cases d with
 |chan dir elem=>
  refine aG.bnd (Dj elem) ?_;rintro R3 h3 inf _ ⟨rfl,hi⟩;simp only;split
  .exact .inl (uR.bnd _)
  .refine aG.bnd (zcV (.chan bK.empty)) ?_
   intro R4 h4 n n' hn;exact aG.ret (.chan (.some (.inl hn)))
 |_=>exact .inl bM
end
section
variable {P:dI}{S:aN->Prop}{K:Pr}{α β γ δ:Type}{R:Pr}
theorem E5.eq_iff {R:Pr}(inj:∀a b c,R a b->R a c->b=c)(inj':∀a b c,R a c->R b c->a=b){a a' b b':Option Nat}(h:E5 R a a')(h':E5 R b b'):(a==b)=(a'==b'):=by
 cases h with
 |none=>cases h' with
  |none=>rfl
  |some y=>rfl
 |some x=>cases h' with
  |none=>rfl
  |some y=>
   rename_i p p' q q';rw[My];simp only[beq_iff_eq,fS];exact⟨λe=>inj _ _ _ (e▸x) y,λe=>inj' _ _ _ (e▸x) y⟩
variable {r r':Nat}
theorem zjY (h:R r r'):aG P S K (λR a b=>(a=none/\b=none)\/∃x x' l,a=some (x,l)/\b=some (x',l)/\fM R x x') (numberAt r) R (numberAt r'):=by
 unfold numberAt;refine aG.bnd (Z9 h) ?_;rintro R1 h1 x _ rfl
 cases x with
 |some x=>exact aG.ret (.inl ⟨rfl,rfl⟩)
 |none=>
  refine aG.bnd (Sw (h1.le _ _ h)) ?_;intro R2 h2 o o' ho
  cases ho with
  |number ha=>exact aG.ret (.inr ⟨_,_,_,rfl,rfl,ha⟩)
  |_=>exact aG.ret (.inl ⟨rfl,rfl⟩)
variable {a a':bO}
theorem zwp (h:fM R a a'):aG P S K (λR x y=>fM R x.1 y.1) (behindNumber a) R (behindNumber a'):=by
 have h0:=h
 cases h with
 |mk h=>
  unfold behindNumber;refine aG.bnd (zjY h) ?_;rintro R1 h1 x y (⟨rfl,rfl⟩|⟨p,p',l,rfl,rfl,hp⟩)
  .exact aG.ret (h0.mono h1.le)
  .exact aG.ret hp
def za9:Xu->Bool
 | .bool| .int _| .string| .chan .. =>true
 |_=>false
theorem fM.block_eq (hR:tF P K R){b b':bO}(h:fM R a a')(h':fM R b b'):(a.block==b.block)=(a'.block==b'.block):=by
 cases h with
 |mk x=>
  cases h' with
  |mk y=>
   rw[My];simp only[beq_iff_eq];exact⟨λe=>hR.inj _ _ _ (.inl (e▸x)) (.inl y),λe=>hR.inj' _ _ _ (.inl (e▸x)) (.inl y)⟩
def zyS (h:R r r'):aG P S K (λR' a b=>R'=R/\a=b) (shape r) R (shape r'):=.inr ⟨r',_,rfl,h,λx=>.inr ⟨x,rfl,rfl,rfl⟩⟩
def zzy (h:R r r'):aG P S K (λR' o o'=>R'=R/\oA S K R o o') (getObj r) R (getObj r'):=.inr ⟨r',_,rfl,.inl h,λo o' ho=>.inr ⟨o',rfl,rfl,ho⟩⟩
def zjt:aG P S K (λR' a b=>R'=R/\a=P.g/\b=P.c) program R program:=.inr ⟨_,rfl,.inr ⟨P.c,rfl,rfl,rfl,rfl⟩⟩
theorem zI7 (h:R r r'):aG P S K (λR' a b=>R'=R/\((a=none/\b=none)\/∃x x' l,a=some (x,l)/\b=some (x',l)/\fM R x x')) (numberAt r) R (numberAt r'):=by
 unfold numberAt;refine aG.bnd (zyS h) ?_;rintro R1 _ x _ ⟨rfl,rfl⟩
 cases x with
 |some x=>exact aG.ret ⟨rfl,.inl ⟨rfl,rfl⟩⟩
 |none=>
  refine aG.bnd (zzy h) ?_;rintro R2 _ o o' ⟨rfl,ho⟩
  cases ho with
  |number ha=>exact aG.ret ⟨rfl,.inr ⟨_,_,_,rfl,rfl,ha⟩⟩
  |_=>exact aG.ret ⟨rfl,.inl ⟨rfl,rfl⟩⟩
theorem zeH (h:fM R a a'):aG P S K (λR' x y=>R'=R/\fM R x.1 y.1) (behindNumber a) R (behindNumber a'):=by
 have h0:=h
 cases h with
 |mk h=>
  unfold behindNumber;refine aG.bnd (zI7 h) ?_;rintro R1 _ x y ⟨rfl,⟨rfl,rfl⟩|⟨p,p',l,rfl,rfl,hp⟩⟩
  .exact aG.ret ⟨rfl,h0⟩
  .exact aG.ret ⟨rfl,hp⟩
theorem fM.low (hR:tF P K R)(h:fM R a a'):decide (a.block<P.globals.size)=decide (a'.block<P.globals.size):=by
 cases h with
 |mk x=>exact decide_eq_decide.2 (hR.low _ _ x)
def ziz (P:dI)(t:aM):Prop:=∀i x,P.info? t=some i->i.desc≠ .named "sync.copyChecker" x
theorem zBl {t:aM}(hc:ziz P t)(hR:tF P K R){b b':bO}(ha:fM R a a')(hb:fM R b b'):
 aG P S K lN (do
  let(a,b):=((<-behindNumber a).1,(<-behindNumber b).1)
  if a.block==b.block&&a.block<(<-program).globals.size then return (<-byteOf a)==(<-byteOf b)
  let .named "sync.copyChecker" _:=(<-typeInfo t).desc|unsupported .addressObserved
  if a==b then pure true else unsupported .addressObserved) R (do
  let(a,b):=((<-behindNumber a').1,(<-behindNumber b').1)
  if a.block==b.block&&a.block<(<-program).globals.size then return (<-byteOf a)==(<-byteOf b)
  let .named "sync.copyChecker" _:=(<-typeInfo t).desc|unsupported .addressObserved
  if a==b then pure true else unsupported .addressObserved):=by
 refine aG.bnd (zeH ha) ?_;rintro R1 _ x y ⟨rfl,hx⟩;refine aG.bnd (zeH hb) ?_;rintro R2 _ u v ⟨rfl,hu⟩;refine aG.bnd zjt ?_;rintro R3 _ p q ⟨rfl,rfl,rfl⟩;rw[<-fM.block_eq hR hx hu,P.globals_g,<-fM.low hR hx];split
 .refine aG.bnd (S8 hx) ?_
  rintro R4 h4 m _ rfl;refine aG.bnd (S8 (hu.mono h4.le)) ?_;rintro R5 h5 m' _ rfl;exact aG.ret rfl
 .refine aG.bnd (Dj t) ?_
  rintro R4 h4 i _ ⟨rfl,hi⟩;refine .inl ?_;split
  .next e=>exact absurd e (hc i _ hi)
  .exact kV
theorem zFd (n:Nat)(t:aM)(d:Xu)(hd:P.underlying t=some d)(ok:za9 d=true)(hc:∀k,d=.int k->ziz P t)(hR:tF P K R){x x' y y':aF}(hx:VR S K R x x')(hy:VR S K R y y'):
 aG P S K lN (Db (n+1) t x y) R (Db (n+1) t x' y'):=by
 unfold Db;refine aG.bnd (A:=λR' a b=>R'=R/\a=b/\P.underlying t=some a) (by
  unfold underlying;refine aG.bnd zjt ?_;rintro R' _ a b ⟨rfl,ha,hb⟩;rw[ha,hb,P.underlying_g]
  cases h:P.c.underlying t with
  |some d=>exact aG.ret ⟨rfl,rfl,h⟩
  |none=>exact .inl bM) ?_
 rintro R1 _ d' _ ⟨rfl,rfl,Ah⟩;obtain rfl:d'=d:=by rw[hd] at Ah;injection Ah with e;exact e.symm
 cases d' with
 |bool=>
  cases hx with
  |bool a=>cases hy with
   |bool b=>exact aG.ret rfl
   |_=>exact .inl bM
  |_=>first|exact .inl bM|(cases hy<;>exact .inl bM)
 |string=>
  cases hx with
  |string a=>cases hy with
   |string b=>exact aG.ret rfl
   |_=>exact .inl bM
  |_=>first|exact .inl bM|(cases hy<;>exact .inl bM)
 |chan dir el=>
  cases hx with
  |chan a=>cases hy with
   |chan b=>exact aG.ret (E5.eq_iff hR.inj hR.inj' a b)
   |_=>exact .inl bM
  |_=>first|exact .inl bM|(cases hy<;>exact .inl bM)
 |int ik=>
  cases hx with
  |int k a=>cases hy with
   |int k' b=>
    simp only;split
    .exact aG.ret rfl
    .exact .inl bM
   |pointer q=>
    cases q with
    |none=>exact .inl zlo
    |some q=>
     by_cases h0:a=0
     .subst h0;exact aG.ret rfl
     .refine .inl ?_
      split<;>first|exact kV|exact bM|(exfalso;simp_all;done)
   |_=>exact .inl zhL
  |pointer p=>cases p with
   |none=>cases hy<;>first|exact .inl kV|exact .inl bM
   |some p=>
    cases hy with
    |int k' b=>
     by_cases h0:b=0
     .subst h0;exact aG.ret rfl
     .refine .inl ?_
      split<;>first|exact kV|exact bM|(exfalso;simp_all;done)
    |pointer q=>
     cases q with
     |none=>exact .inl zlo
     |some q=>exact zBl (hc ik rfl) hR p q
    |_=>exact .inl zlo
  |_=>cases hy<;>first|exact .inl bM|exact .inl kV
 |_=>cases ok
end
section
variable {P:dI}{S:aN->Prop}{K:Pr}{α β γ δ:Type}{R:Pr}
def Kk (S:aN->Prop)(K R:Pr)(es eV:List oS):Prop:=es.length=eV.length/\∀(i:Nat) (e e':oS),es[i]? =some e->eV[i]? =some e'->Az S K R e e'
variable {es eV:Array oS}
theorem pZ.toList (h:pZ S K R es eV):Kk S K R es.toList eV.toList:=⟨by simpa using h.1,λi e e' h1 h2=>h.2 i e e' Qb Qz⟩
variable {e e':oS}
theorem Kk.cons {es eV:List oS}(h:Kk S K R (e::es) (e'::eV)):Az S K R e e'/\Kk S K R es eV:=
 ⟨h.2 0 e e' rfl rfl,by simpa using h.1,λi a b h1 h2=>h.2 (i+1) a b Qb Qz⟩
def Kk.mono {R':Pr}(hR:R.le R'){es eV:List oS}(h:Kk S K R es eV):Kk S K R' es eV:=⟨h.1,λi e e' h1 h2=>(h.2 i e e' h1 h2).mono hR⟩
theorem wX.eq_iff (hR:tF P K R){a a' b b':Option bO}(h:wX R a a')(h':wX R b b'):(a==b)=(a'==b'):=by
 cases h with
 |none=>cases h' with
  |none=>rfl
  |some y=>rfl
 |some x=>cases h' with
  |none=>rfl
  |some y=>
   cases x with
   |mk x=>
    cases y with
    |mk y=>
     rw[My];simp only[beq_iff_eq,fS,bO.mk.injEq];exact⟨λe=>⟨hR.inj _ _ _ (.inl (e.1▸x)) (.inl y),e.2⟩,λe=>⟨hR.inj' _ _ _ (.inl (e.1▸x)) (.inl y),e.2⟩⟩
def Flat:aF->Prop
 | .tuple _| .agg _| .iface _ _| .nilFunc=>False
 |_=>True
variable {x x' y:aF}
theorem zCD (hR:tF P K R)(n:Nat){y':aF}(fx:Flat x)(fy:Flat y)(hx:VR S K R x x')(hy:VR S K R y y'):zb5 n x y=zb5 n x' y':=by
 cases n<;>(
  cases hx with
  |pointer h1=>cases hy with
   |pointer h2=>exact wX.eq_iff hR h1 h2
   |junk h=>exact fy.elim
   |_=>rfl
  |chan h1=>cases hy with
   |chan h2=>exact E5.eq_iff hR.inj hR.inj' h1 h2
   |junk h=>exact fy.elim
   |_=>rfl
  |junk h=>exact fx.elim
  |iface h1=>exact fx.elim
  |agg h1=>exact fx.elim
  |tuple h1=>exact fx.elim
  |_=>cases hy<;>first|rfl|exact fy.elim)
variable {t:aM}{d:Xu}
theorem zhb (hd:P.underlying t=some d)(ok:za9 d=true)(h:¬(Flat x/\Flat y)):eW P (yQ t x y):=by
 have e:yQ t x y=Db (9999+1) t x y:=rfl;rw[e];unfold Db;have hu:∀w,(underlying t).run P.g w=.ok d w:=λw=>by
  have:P.g.underlying t=some d:=hd;simp[underlying,program,bD,bind,cS.bind,pure,this]
 have key:∀{f:Xu->cS Bool},eW P (f d)->eW P (underlying t>>=f):=λ{f} hf w hw=>by
  obtain⟨h1,w1,h2,h3⟩:=hf w hw;refine⟨h1,w1,?_,h3⟩;have:=q9 P.g (underlying t) f w;rw[hu] at this;exact this.trans h2
 refine key ?_;cases d<;>first|(cases ok;done)|skip
 all_goals(cases x<;>cases y<;>first
  |exact(h ⟨True.intro,True.intro⟩).elim
  |exact bM
  |exact kV
  |(split<;>first|exact bM|exact kV|(simp_all;done)))
theorem zFO {b:Bool}(h:vF d x y=some b):Flat x/\Flat y:=by
 cases x<;>cases d<;>first|(simp[vF] at h;done)|(cases y<;>first|exact⟨trivial,trivial⟩|(simp[vF] at h;done))
variable {k k':aF}
theorem zzW (d:Xu){e e':aF}(f1:Flat k)(f2:Flat e)(hk:VR S K R k k')(he:VR S K R e e'):vF d k e=vF d k' e':=by
 cases hk with
 |junk _=>exact f1.elim
 |int i n=>cases he with
  |int i n=>rfl
  |junk _=>exact f2.elim
  |_=>cases d<;>rfl
 |string s=>cases he with
  |string s=>rfl
  |junk _=>exact f2.elim
  |_=>cases d<;>rfl
 |bool s=>cases he with
  |bool s=>rfl
  |junk _=>exact f2.elim
  |_=>cases d<;>rfl
 |_=>cases d<;>rfl
inductive OfR (S:aN->Prop)(K R:Pr)(F:Nat->Prop):Option (Nat×aF)->Option (Nat×aF)->Prop
 |none:OfR S K R F none none
 |some {i:Nat} {v v':aF}:VR S K R v v'->F i->OfR S K R F (some (i,v)) (some (i,v'))
structure Jo (P:dI)(t:aM):Prop where
 ex:∃d,P.underlying t=some d/\za9 d=true
 nc:∀k,P.underlying t=some (.int k)->ziz P t
theorem zhV (ht:Jo P t)(hR:tF P K R){y':aF}(hx:VR S K R x x')(hy:VR S K R y y'):aG P S K lN (yQ t x y) R (yQ t x' y'):=by
 obtain⟨d,hd,ok⟩:=ht.ex;have e:∀a b,yQ t a b=Db (9999+1) t a b:=λa b=>rfl;rw[e,e];exact zFd 9999 t d hd ok (λk e=>ht.nc k (e▸hd)) hR hx hy
theorem zH9 (hd:P.underlying t=some d)(h:vF d x y=some false)(w:aE):(yQ t x y).run P.g w=.ok false w:=by
 have e:yQ t x y=Db (9999+1) t x y:=rfl;have hg:P.g.underlying t=some d:=hd;have hu:(underlying t).run P.g w=.ok d w:=by simp[underlying,program,bD,bind,cS.bind,pure,hg]
 rw[e];unfold Db;refine(q9 P.g (underlying t) _ w).trans ?_;rw[hu]
 cases x with
 |bool a=>
  cases d with
  |bool=>
   cases y with
   |bool b=>
    have h':(a==b)=false:=by simpa[vF] using h
    show bD P.g (pure (a==b)) w=_;rw[h'];rfl
   |_=>simp[vF] at h
  |_=>simp[vF] at h
 |string a=>
  cases d with
  |string=>
   cases y with
   |string b=>
    have h':(a==b)=false:=by simpa[vF] using h
    show bD P.g (pure (a==b)) w=_;rw[h'];rfl
   |_=>simp[vF] at h
  |_=>simp[vF] at h
 |int k a=>
  cases d with
  |int dk=>
   cases y with
   |int k' b=>
    simp only[vF] at h;split at h
    .next hk=>
     have h':(a==b)=false:=by simpa using h
     show bD P.g (if k=k' then pure (a==b) else stuck "==: kinds differ") w=_;rw[if_pos hk,h'];rfl
    .cases h
   |_=>simp[vF] at h
  |_=>simp[vF] at h
 |_=>cases d<;>simp[vF] at h
theorem zsU (hd:P.underlying t=some d)(ok:za9 d=true)(hk:VR S K R k k'){F:Nat->Prop}:∀(es eV:List oS) (i:Nat),Kk S K R es eV->(∀j e,es[j]? =some e->Flat k->Flat e.key->F (i+j))->
 (Gt d k es i=none/\eW P (Jm t k es i))\/(Gt d k es i=none/\Gt d k' eV i=none)\/∃r r',Gt d k es i=some r/\Gt d k' eV i=some r'/\OfR S K R F r r'
 |[],[],i,h,_=>.inr (.inr ⟨_,_,rfl,rfl,.none⟩)
 |[],_::_,i,h,_=>by have:=h.1;simp at this
 |_::_,[],i,h,_=>by have:=h.1;simp at this
 |e::es,e'::eV,i,h,hF=>by
  obtain⟨h1,h2⟩:=h.cons
  cases h1 with
  |mk uU hv=>
   rename_i ek ek' ev ev' born;by_cases hf:Flat k/\Flat ek
   .unfold Gt
    simp only[<-zzW d hf.1 hf.2 hk uU]
    cases hs:vF d k ek with
    |none=>exact .inr (.inl ⟨rfl,rfl⟩)
    |some b=>cases b with
     |true=>exact .inr (.inr ⟨_,_,rfl,rfl,.some hv zuK⟩)
     |false=>
      rcases zsU hd ok hk es eV (i+1) h2 (λj e he a b=>by have:=hF (j+1) e (by simpa using he) a b;rwa [show i+1+j=i+(j+1) by omega]) with⟨hq,hn⟩|hr
      .refine .inl ⟨hq,λw hw=>?_⟩
       obtain⟨hh,w1,q1,q2⟩:=hn w hw;refine⟨hh,w1,?_,q2⟩;unfold Jm;refine(q9 P.g _ _ w).trans ?_;rw[zH9 hd hs w];exact q1
      .exact .inr hr
   .refine .inl ⟨?_,?_⟩
    .unfold Gt
     cases hs:vF d k ek with
     |none=>rfl
     |some b=>exact absurd (zFO hs) hf
    .unfold Jm
     exact(zhb hd ok hf).bnd _
theorem zsI (ht:Jo P t):∀(es eV:List oS) (i:Nat) {R:Pr} {k k':aF} {F:Nat->Prop},tF P K R->VR S K R k k'->Kk S K R es eV->(∀j e,es[j]? =some e->Flat k->Flat e.key->F (i+j))->
 aG P S K (λR' a b=>OfR S K R' F a b) (Jm t k es i) R (Jm t k' eV i)
 |[],[],i,R,k,k',F,hR,hk,h,hF=>aG.ret .none
 |[],_::_,i,R,k,k',F,hR,hk,h,hF=>by have:=h.1;simp at this
 |_::_,[],i,R,k,k',F,hR,hk,h,hF=>by have:=h.1;simp at this
 |e::es,e'::eV,i,R,k,k',F,hR,hk,h,hF=>by
  obtain⟨h1,h2⟩:=h.cons
  cases h1 with
  |mk uU hv=>
   rename_i ek ek' ev ev' born;by_cases hf:Flat k/\Flat ek
   rotate_left
   .obtain⟨d,hd,ok⟩:=ht.ex
    refine .inl ?_;unfold Jm;exact(zhb hd ok hf).bnd _
   unfold Jm;refine aG.bnd (zhV ht hR hk uU) ?_;rintro R1 hx b _ rfl
   cases b with
   |true=>exact aG.ret (.some (hv.mono hx.le) zuK)
   |false=>exact zsI ht es eV (i+1) (hx.ok hR) (hk.mono hx.le) (h2.mono hx.le) (λj e he a b=>by have:=hF (j+1) e (by simpa using he) a b;rwa [show i+1+j=i+(j+1) by omega])
variable {i:Nat}
theorem pZ.get (h:pZ S K R es eV)(hi:es[i]? =some e):∃e',eV[i]? =some e'/\Az S K R e e':=by
 have:i<eV.size:=by rw[<-h.1];exact(dM.1 hi).1
 exact⟨_,nA this,h.2 i e _ hi (nA this)⟩
theorem pZ.none (h:pZ S K R es eV)(hi:es[i]? =none):eV[i]? =none:=by
 rw[zvv] at hi⊢;rw[<-h.1];exact hi
theorem pZ.modify (h:pZ S K R es eV)(i:Nat){f f':oS->oS}(hf:∀e e',Az S K R e e'->Az S K R (f e) (f' e')):pZ S K R (es.modify i f) (eV.modify i f'):=by
 refine⟨by simpa using h.1,λk e e' h1 h2=>?_⟩;rw[zj5] at h1 h2;split at h1
 .next e1=>
  rw[if_pos e1] at h2
  cases q:es[k]? with
  |none=>rw[q] at h1;cases h1
  |some u=>
   obtain⟨u',q',r⟩:=h.get q;rw[q] at h1;rw[q'] at h2;cases h1;cases h2;exact hf _ _ r
 .next e1=>
  rw[if_neg e1] at h2;exact h.2 k e e' h1 h2
theorem pZ.push (h:pZ S K R es eV)(he:Az S K R e e'):pZ S K R (es.push e) (eV.push e'):=by
 refine⟨by simpa using h.1,λk a a' h1 h2=>?_⟩;rw[Xh] at h1 h2;rw[<-h.1] at h2;split at h1
 .next e1=>
  rw[if_pos e1] at h2;cases h1;cases h2;exact he
 .next e1=>
  rw[if_neg e1] at h2;exact h.2 k a a' h1 h2
theorem pZ.erase (h:pZ S K R es eV)(i:Nat):pZ S K R (es.eraseIdxIfInBounds i) (eV.eraseIdxIfInBounds i):=by
 unfold Array.eraseIdxIfInBounds;split
 .next hi=>
  have iY:=h.1▸hi;rw[dif_pos iY];refine⟨by simp[h.1],λk a a' h1 h2=>?_⟩;rw[Array.getElem?_eraseIdx] at h1 h2;split at h1
  .next e1=>rw[if_pos e1] at h2;exact h.2 _ _ _ h1 h2
  .next e1=>rw[if_neg e1] at h2;exact h.2 _ _ _ h1 h2
 .next hi=>
  have iY:=h.1▸hi;rw[dif_neg iY];exact h
theorem zkR (ht:Jo P t)(hR:tF P K R)(hk:VR S K R k k'){es eV:List oS}(he:Kk S K R es eV):
 aG P S K (λR' a b=>OfR S K R' (λi=>Flat k/\∀e,es[i]? =some e->Flat e.key) a b) (J8 t k es) R (J8 t k' eV):=by
 unfold J8;refine aG.bnd (lU t) ?_;rintro R1 h1 d _ ⟨rfl,hd⟩;obtain⟨d',Ah,ok⟩:=ht.ex;obtain rfl:d'=d:=by rw[hd] at Ah;injection Ah with e;exact e.symm
 have hF:∀j e,es[j]? =some e->Flat k->Flat e.key->Flat k/\∀e,es[0+j]? =some e->Flat e.key:=λj e he a b=>⟨a,λe2 zgg=>by rw[rL,he] at zgg;injection zgg with zgg;exact zgg▸b⟩;rcases zsU (F:=λi=>Flat k/\∀e,es[i]? =some e->Flat e.key) hd ok (hk.mono h1.le) es eV 0 (he.mono h1.le) hF with⟨e1,hn⟩|⟨e1,e2⟩|⟨r,r',e1,e2,h⟩
 .rw[e1]
  exact .inl hn
 .rw[e1,e2]
  exact zsI ht es eV 0 (h1.ok hR) (hk.mono h1.le) (he.mono h1.le) hF
 .rw[e1,e2]
  exact aG.ret h
theorem zHP (n:Nat)(ht:Jo P t)(b:Bool)(k k':aF):aG P S K lN (Ga b (n+1) t k) R (Ga b (n+1) t k'):=by
 obtain⟨d,hd,ok⟩:=ht.ex;unfold Ga;refine aG.bnd (lU t) ?_;rintro R1 h1 d' _ ⟨rfl,Ah⟩;obtain rfl:d'=d:=by rw[hd] at Ah;injection Ah with e;exact e.symm
 cases d' with
 |interface _=>cases ok
 |array _ _=>cases ok
 |struct _=>cases ok
 |_=>exact aG.ret rfl
def zcT (ht:Jo P t)(b:Bool)(k k':aF):aG P S K lN (Ga b 10000 t k) R (Ga b 10000 t k'):=zHP 9999 ht b k k'
theorem zHd (hR:tF P K R){a a' b b':aF}(fa:Flat a)(fb:Flat b)(ha:VR S K R a a')(hb:VR S K R b b'):aG P S K (VA S K) (Oa a b) R (Oa a' b'):=by
 unfold Oa;rw[zCD hR 10000 fa fb ha hb];split
 .exact aG.ret hb
 .refine aG.bnd (zf3 _) ?_
  rintro R1 h1 n _ rfl;refine aG.ret ?_;split
  .exact hb.mono h1.le
  .exact ha.mono h1.le
theorem pZ.keyD (h:pZ S K R es eV)(i:Nat)(hk:VR S K R k k'):VR S K R (((es[i]?).map (·.key)).getD k) (((eV[i]?).map (·.key)).getD k'):=by
 cases q:es[i]? with
 |none=>rw[h.none q];exact hk
 |some e=>
  obtain⟨e',q',r⟩:=h.get q;rw[q']
  cases r with
  |mk a b=>exact a
theorem zD8 (h:Flat k/\∀e,es.toList[i]? =some e->Flat e.key):Flat (((es[i]?).map (·.key)).getD k):=by
 cases q:es[i]? with
 |none=>exact h.1
 |some e=>exact h.2 e (by simpa using q)
theorem pZ.isEmpty (h:pZ S K R es eV):es.isEmpty=eV.isEmpty:=by simp[Array.isEmpty,h.1]
theorem zIt (hz:Hl P S)(ht:∀k e,P.underlying t=some (.map k e)->Jo P k)(hR:tF P K R)(hx:VR S K R x x')(hk:VR S K R k k')(c:Bool):
 aG P S K (VA S K) (yP t x k c) R (yP t x' k' c):=by
 unfold yP;refine aG.bnd (lU t) ?_;rintro R1 h1 d _ ⟨rfl,hd⟩
 cases d with
 |map kt el=>
  have hK:=ht kt el hd
  have tail:∀R2,xH P K R1 R2->∀es eV,pZ S K R2 es eV->aG P S K (VA S K)
   (do
    Ga es.isEmpty 10000 kt k
    let r<-J8 kt k es.toList
    match r with
    |some (_,v)=>do let x<-pure (v,true);pure (if c=true then Ys #[x.fst,.bool x.snd] else x.fst)
    |none=>do let z<-zeroValue el;let x<-pure (z,false);pure (if c=true then Ys #[x.fst,.bool x.snd] else x.fst)) R2
   (do
    Ga eV.isEmpty 10000 kt k'
    let r<-J8 kt k' eV.toList
    match r with
    |some (_,v)=>do let x<-pure (v,true);pure (if c=true then Ys #[x.fst,.bool x.snd] else x.fst)
    |none=>do let z<-zeroValue el;let x<-pure (z,false);pure (if c=true then Ys #[x.fst,.bool x.snd] else x.fst)):=by
   intro R2 h2 es eV he;rw[he.isEmpty];refine aG.bnd (zcT hK _ _ _) ?_;rintro R3 h3 _ _ rfl;have V3:=h3.ok (h2.ok (h1.ok hR));have It:=((hk.mono h1.le).mono h2.le).mono h3.le;have fin:∀{R5:Pr} {v v':aF} {b:Bool},VR S K R5 v v'->aG P S K (VA S K) (do let x<-pure (v,b);pure (if c=true then Ys #[x.fst,.bool x.snd] else x.fst)) R5 (do let x<-pure (v',b);pure (if c=true then Ys #[x.fst,.bool x.snd] else x.fst)):=by
    intro R5 v v' b hv;refine aG.bnd (aG.ret (A:=λR (a b:aF×Bool)=>VR S K R a.1 b.1/\a.2=b.2) ⟨hv,rfl⟩) ?_;rintro R5 h5 ⟨v,b⟩ ⟨v',b'⟩ ⟨hv,e⟩;cases e
    cases c with
    |true=>exact aG.ret (VR.tuple' ((bK.empty.push hv).push (.bool b)))
    |false=>exact aG.ret hv
   refine aG.bnd (zkR hK V3 It (he.mono h3.le).toList) ?_;intro R4 h4 r r' hr
   cases hr with
   |some hv=>exact fin hv
   |none=>
    refine aG.bnd (O7 hz el) ?_;intro R5 h5 z z' pD;exact fin pD
  cases hx with
  |map h=>
   cases h with
   |none=>exact aG.bnd (aG.ret (A:=λR a b=>pZ S K R a b) ⟨rfl,λi e e' h=>by simp at h⟩) tail
   |some h=>
    refine aG.bnd (Sw (h1.le _ _ h)) ?_;intro R2 h2 o o' ho
    cases ho with
    |map he=>exact aG.bnd (aG.ret (A:=λR a b=>pZ S K R a b) he) (λR3 h3 es eV he=>tail R3 (h2.trans h3) es eV he)
    |_=>exact .inl (bM.bnd _)
  |_=>exact .inl (bM.bnd _)
 |_=>exact .inl bM
theorem zEy (ht:∀k e,P.underlying t=some (.map k e)->Jo P k)(hR:tF P K R){v v':aF}(hx:VR S K R x x')(hk:VR S K R k k')(hv:VR S K R v v'):
 aG P S K lN (Gg t x k v) R (Gg t x' k' v'):=by
 unfold Gg;refine aG.bnd (lU t) ?_;rintro R1 h1 d _ ⟨rfl,hd⟩
 cases d with
 |map kt el=>
  have hK:=ht kt el hd
  cases hx with
  |map h=>
   cases h with
   |none=>exact .inl uR
   |some h=>
    refine aG.bnd (Sw (h1.le _ _ h)) ?_;intro R2 h2 o o' ho
    cases ho with
    |map he=>
     rename_i cl;refine aG.bnd (zcT hK _ _ _) ?_;rintro R3 h3 _ _ rfl;have V3:=h3.ok (h2.ok (h1.ok hR));have It:=((hk.mono h1.le).mono h2.le).mono h3.le;have Ro:=h3.le _ _ (h2.le _ _ (h1.le _ _ h));have Fg:=((hv.mono h1.le).mono h2.le).mono h3.le;refine aG.bnd (zkR hK V3 It (he.mono h3.le).toList) ?_;intro R4 h4 r r' hr
     cases hr with
     |some hq zeq=>
      refine aG.bnd (zHd (h4.ok V3) (zD8 zeq) zeq.1 (((he.mono h3.le).mono h4.le).keyD _ (It.mono h4.le)) (It.mono h4.le)) ?_;intro R5 h5 kk Il fJ;refine zaz (h5.le _ _ (h4.le _ _ Ro)) (.map (pZ.modify (((he.mono h3.le).mono h4.le).mono h5.le) _ ?_));intro e e' zCp
      cases zCp with
      |mk a b=>exact .mk fJ ((Fg.mono h4.le).mono h5.le)
     |none=>exact zaz (h4.le _ _ Ro) (.map (pZ.push ((he.mono h3.le).mono h4.le) (.mk (It.mono h4.le) (Fg.mono h4.le))))
    |_=>exact .inl bM
  |_=>exact .inl bM
 |_=>exact .inl bM
end
section
variable {P:dI}{S:aN->Prop}{K:Pr}{α β γ δ:Type}{R:Pr}
variable {xs bX:Array aF}
theorem bK.opt (h:bK S K R xs bX)(i:Nat):yT S K R xs[i]? bX[i]? :=by
 cases q:xs[i]? with
 |none=>rw[h.none q];exact .none
 |some v=>obtain⟨v',q',hv⟩:=h.get q;rw[q'];exact .some hv
theorem zFQ (ts:Array aM)(t:aM)(h:bK S K R xs bX):aG P S K (VA S K) (zjo ts t xs) R (zjo ts t bX):=by
 unfold zjo
 cases ts[0]? with
 |none=>exact .inl bM
 |some t=>
  have ho:=h.opt 0;generalize xs[0]? =o at ho;generalize bX[0]? =o' at ho
  cases ho with
  |none=>exact .inl bM
  |some hv=>
   simp only;refine aG.bnd (lU t) ?_;rintro R1 h1 d _ ⟨rfl,hd⟩
   cases d with
   |string=>cases hv with
    |string s=>exact aG.ret (.int _ _)
    |_=>exact .inl bM
   |array n e=>exact aG.ret (.int _ _)
   |pointer arr=>
    refine aG.bnd (lU arr) ?_;rintro R2 h2 d2 _ ⟨rfl,Aj⟩
    cases d2 with
    |array n e=>exact aG.ret (.int _ _)
    |_=>exact .inl bM
   |slice e=>cases hv with
    |slice _=>exact aG.ret (.int _ _)
    |_=>exact .inl bM
   |map k e=>cases hv with
    |map hm=>cases hm with
     |none=>exact aG.ret (.int _ _)
     |some hm=>
      refine aG.bnd (Sw (h1.le _ _ hm)) ?_;intro R2 h2 o o' ho
      cases ho with
      |map he=>simp only;rw[he.1];exact aG.ret (.int _ _)
      |_=>exact .inl bM
    |_=>exact .inl bM
   |chan k e=>cases hv with
    |chan hm=>cases hm with
     |none=>exact aG.ret (.int _ _)
     |some hm=>
      refine aG.bnd (zrB (hm.imp (h1.le _ _) id)) ?_;intro R2 h2 o o' ho
      cases ho with
      |chan he=>simp only;rw[he.1];exact aG.ret (.int _ _)
      |_=>exact .inl bM
    |_=>exact .inl bM
   |_=>exact .inl bM
theorem zCu (ts:Array aM)(t:aM)(h:bK S K R xs bX):aG P S K (VA S K) (zmC ts t xs) R (zmC ts t bX):=by
 unfold zmC
 cases ts[0]? with
 |none=>exact .inl bM
 |some t=>
  have ho:=h.opt 0;generalize xs[0]? =o at ho;generalize bX[0]? =o' at ho
  cases ho with
  |none=>exact .inl bM
  |some hv=>
   simp only;refine aG.bnd (lU t) ?_;rintro R1 h1 d _ ⟨rfl,hd⟩
   cases d with
   |array n e=>exact aG.ret (.int _ _)
   |pointer arr=>
    refine aG.bnd (lU arr) ?_;rintro R2 h2 d2 _ ⟨rfl,Aj⟩
    cases d2 with
    |array n e=>exact aG.ret (.int _ _)
    |_=>exact .inl bM
   |slice e=>cases hv with
    |slice _=>exact aG.ret (.int _ _)
    |_=>exact .inl bM
   |chan k e=>cases hv with
    |chan hm=>cases hm with
     |none=>exact aG.ret (.int _ _)
     |some hm=>
      refine aG.bnd (zrB (hm.imp (h1.le _ _) id)) ?_;intro R2 h2 o o' ho
      cases ho with
      |chan he=>exact aG.ret (.int _ _)
      |_=>exact .inl bM
    |_=>exact .inl bM
   |_=>exact .inl bM
variable {ts:Array aM}
theorem zxS (t:aM)(ht:∀mt k e,ts[0]? =some mt->P.underlying mt=some (.map k e)->Jo P k)(hR:tF P K R)(h:bK S K R xs bX):
 aG P S K (VA S K) (Kd ts t xs) R (Kd ts t bX):=by
 unfold Kd
 cases e0:ts[0]? with
 |none=>exact .inl bM
 |some mt=>
  have ho:=h.opt 0;have yM:=h.opt 1;generalize xs[0]? =o at ho;generalize bX[0]? =o' at ho;generalize xs[1]? =p at yM;generalize bX[1]? =p' at yM
  cases ho with
  |none=>exact .inl bM
  |some hm=>
   cases yM with
   |none=>exact .inl bM
   |some hk=>
    simp only;refine aG.bnd (lU mt) ?_;rintro R1 h1 d _ ⟨rfl,hd⟩
    cases d with
    |map kt el=>
     have hK:=ht mt kt el e0 hd;have fin:∀{R2:Pr},aG P S K (VA S K) (pure (.tuple #[])) R2 (pure (.tuple #[])):=aG.ret (VR.tuple' bK.empty)
     cases hm with
     |map hm=>
      cases hm with
      |none=>exact aG.bnd (zcT hK _ _ _) (λ_ _ _ _ _=>fin)
      |some hm=>
       refine aG.bnd (Sw (h1.le _ _ hm)) ?_;intro R2 h2 o o' ho
       cases ho with
       |map he=>
        simp only;rw[he.isEmpty];refine aG.bnd (zcT hK _ _ _) ?_;rintro R3 h3 _ _ rfl;have V3:=h3.ok (h2.ok (h1.ok hR));have It:=((hk.mono h1.le).mono h2.le).mono h3.le;have Ro:=h3.le _ _ (h2.le _ _ (h1.le _ _ hm));refine aG.bnd (zkR hK V3 It (he.mono h3.le).toList) ?_;intro R4 h4 r r' hr
        cases hr with
        |some hq=>exact aG.bnd (zaz (h4.le _ _ Ro) (.map (((he.mono h3.le).mono h4.le).erase _))) (λ_ _ _ _ _=>fin)
        |none=>exact aG.bnd (zaz (h4.le _ _ Ro) (.map ((he.mono h3.le).mono h4.le))) (λ_ _ _ _ _=>fin)
       |_=>exact .inl (bM.bnd _)
     |_=>exact .inl (bM.bnd _)
    |_=>exact .inl bM
variable {x':aF}
theorem zny {x:aF}(h:VR S K R x x'):aG P S K lN (zoB x) R (zoB x'):=by
 cases h with
 |slice _=>exact aG.ret rfl
 |string s=>exact aG.ret rfl
 |_=>exact .inl bM
theorem zb2 (size n:Nat){x:aF}(h:VR S K R x x'):aG P S K (λR a b=>bK S K R a b) (Sl size n x) R (Sl size n x'):=by
 cases h with
 |slice ha=>cases ha with
  |none=>exact aG.ret bK.empty
  |some ha=>exact zkO ha _
 |string s=>
  refine aG.ret ⟨rfl,λi v v' h1 h2=>?_⟩;rw[h1] at h2;injection h2 with e;subst e;rw[xP] at h1
  cases q:(s.extract 0 n).data[i]? with
  |none=>rw[q] at h1;cases h1
  |some b=>rw[q] at h1;cases h1;exact .int _ _
 |_=>exact .inl bM
theorem zgR {z z':Array aF}(h:bK S K R z z')(n:Nat):bK S K R (pS z n) (pS z' n):=by
 refine⟨by simp[pS,h.1],λi v v' h1 h2=>?_⟩;unfold pS at h1 h2;rw[xP] at h1 h2;rw[<-h.1] at h2
 cases q:(J7 (n*z.size))[i]? with
 |none=>rw[q] at h1;cases h1
 |some j=>
  rw[q] at h1 h2;cases h1;cases h2
  cases q1:z[j%z.size]? with
  |none=>
   have q2:=h.none q1;show VR S K R (z[j%z.size]!) (z'[j%z.size]!);rw[getElem!_def,getElem!_def,q1,q2];exact .bool false
  |some u=>
   obtain⟨u',q2,hu⟩:=h.get q1;show VR S K R (z[j%z.size]!) (z'[j%z.size]!);rw[getElem!_def,getElem!_def,q1,q2];exact hu
theorem zHE {A:Pr->γ->δ->Prop}{F:Bool->cS γ}{F':Bool->cS δ}(o:Option aM)(hi:∀xt d,o=some xt->P.underlying xt=some d->∀k,d≠ .int k)(hF:∀R3,xH P K R R3->aG P S K A (F false) R3 (F' false)):
 aG P S K A (match(generalizing:=false) o with|some xt=>do let l<-underlying xt;let zeros<-pure (match l with| .int k=>true|x=>false);F zeros|none=>do let zeros<-pure false;F zeros) R
  (match(generalizing:=false) o with|some xt=>do let l<-underlying xt;let zeros<-pure (match l with| .int k=>true|x=>false);F' zeros|none=>do let zeros<-pure false;F' zeros):=by
 cases o with
 |none=>
  refine aG.bnd (aG.ret (A:=λ_ a b=>a=false/\b=false) ⟨rfl,rfl⟩) ?_;rintro R3 h3 _ _ ⟨rfl,rfl⟩;exact hF R3 h3
 |some xt=>
  refine aG.bnd (lU xt) ?_;rintro R3 h3 d _ ⟨rfl,zgO⟩;have e:∀d:Xu,(∀k,d≠ .int k)->(match d with| .int k=>true|x=>false)=false:=by
   intro d h;cases d<;>first|rfl|exact absurd rfl (h _)
  refine aG.bnd (A:=λ_ a b=>a=false/\b=false) (aG.ret ⟨e d (hi xt d rfl zgO),e d (hi xt d rfl zgO)⟩) ?_;rintro R4 h4 _ _ ⟨rfl,rfl⟩;exact hF R4 (h3.trans h4)
theorem zzE (hz:Hl P S)(t:aM)(hi:∀xt d,ts[1]? =some xt->P.underlying xt=some d->∀k,d≠ .int k)(h:bK S K R xs bX):
 aG P S K (VA S K) (wG ts t xs) R (wG ts t bX):=by
 unfold wG
 cases e0:ts[0]? with
 |none=>exact .inl bM
 |some st=>
  have ho:=h.opt 0;have yM:=h.opt 1;generalize xs[0]? =o at ho;generalize bX[0]? =o' at ho;generalize xs[1]? =p at yM;generalize bX[1]? =p' at yM
  cases ho with
  |none=>exact .inl bM
  |some hs=>
   cases yM with
   |none=>exact .inl bM
   |some hx=>
    rename_i s s' x x';simp only;refine aG.bnd (lU st) ?_;rintro R1 h1 d _ ⟨rfl,hd⟩
    cases d with
    |slice elem=>
     cases hs with
     |slice hb=>
      rename_i b b' n c;refine aG.bnd (Ab elem) ?_;rintro R2 h2 size _ rfl;have pI:=(hb.mono h1.le).mono h2.le;have Am:=(hx.mono h1.le).mono h2.le;refine zHE ts[1]? hi ?_;intro R3 h3;simp only[Bool.not_false,if_true,iU,if_false,false_or];refine aG.bnd (zny (Am.mono h3.le)) ?_;rintro R4 h4 m _ rfl;have O5:=(pI.mono h3.le).mono h4.le;have zpd:=(Am.mono h3.le).mono h4.le;split
      .refine aG.bnd (zb2 size m zpd) ?_
       intro R5 h5 w w' hw;have Zw:=O5.mono h5.le
       cases Zw with
       |none=>exact aG.ret (.slice .none)
       |some ha=>
        refine aG.bnd (U4 _ _ 0 (ha.add _) hw.toList) ?_;rintro R6 h6 _ _ rfl;exact aG.ret (.slice (.some (ha.mono h6.le)))
      .refine aG.bnd (Dj elem) ?_
       rintro R5 h5 inf _ ⟨rfl,zMb⟩;split
       .exact .inl (uR.bnd _)
       .refine aG.bnd (Dj elem) ?_
        rintro R6 h6 zFg _ ⟨rfl,znt⟩;have tN:=(O5.mono h5.le).mono h6.le;have zur:=(zpd.mono h5.le).mono h6.le;split
        .refine .inl (eW.bnd (eW.then (zyO _ _ _ _ _) λsh=>?_) _)
         split
         .exact eW.then (zBP _) λ_=>kV
         .exact kV
        .refine aG.bnd (zf3 _) ?_
         rintro R7 h7 nc _ rfl;refine aG.bnd (Dj elem) ?_;rintro R8 h8 zzi _ ⟨rfl,zDl⟩;refine aG.bnd (zjj _) ?_;rintro R9 h9 _ _ rfl;have xU:=((tN.mono h7.le).mono h8.le).mono h9.le;have zHU:=((zur.mono h7.le).mono h8.le).mono h9.le;refine aG.bnd (zb2 size n (.slice xU)) ?_;intro zJc N7 o o' ho;refine aG.bnd (zb2 size m (zHU.mono N7.le)) ?_;intro zAi S4 w w' hw;refine aG.bnd (O7 hz elem) ?_;intro zAS zbC z z' pD;refine aG.bnd (zaT elem (((ho.mono (S4.trans zbC).le).append (hw.mono zbC.le)).append (zgR pD.cells _))) ?_;intro zB6 zyj r r' hr;exact aG.ret (.slice (.some hr))
     |_=>exact .inl bM
    |_=>exact .inl bM
theorem zFG (ts:Array aM)(t:aM)(h:bK S K R xs bX):aG P S K (VA S K) (C8 ts t xs) R (C8 ts t bX):=by
 unfold C8
 cases e0:ts[0]? with
 |none=>exact .inl bM
 |some st=>
  have ho:=h.opt 0;have yM:=h.opt 1;generalize xs[0]? =o at ho;generalize bX[0]? =o' at ho;generalize xs[1]? =p at yM;generalize bX[1]? =p' at yM
  cases ho with
  |none=>exact .inl bM
  |some hs=>
   cases yM with
   |none=>exact .inl bM
   |some hx=>
    simp only;refine aG.bnd (lU st) ?_;rintro R1 h1 d _ ⟨rfl,hd⟩
    cases d with
    |slice elem=>
     cases hs with
     |slice hb=>
      refine aG.bnd (zny (hx.mono h1.le)) ?_;rintro R2 h2 m _ rfl;refine aG.bnd (Ab elem) ?_;rintro R3 h3 size _ rfl;refine aG.bnd (zb2 size _ (((hx.mono h1.le).mono h2.le).mono h3.le)) ?_;intro R4 h4 w w' hw;have O5:=(((hb.mono h1.le).mono h2.le).mono h3.le).mono h4.le
      cases O5 with
      |none=>exact aG.ret (.int _ _)
      |some ha=>
       refine aG.bnd (U4 _ _ 0 ha hw.toList) ?_;rintro R6 h6 _ _ rfl;exact aG.ret (.int _ _)
     |_=>exact .inl bM
    |_=>exact .inl bM
theorem aG.ite {α β:Type}{A:Pr->α->β->Prop}{c:Prop}[Decidable c]{s t:cS α}{s' t':cS β}(h1:c->aG P S K A s R s')(h2:¬c->aG P S K A t R t'):aG P S K A (if c then s else t) R (if c then s' else t'):=by
 by_cases hc:c
 .rw[if_pos hc,if_pos hc];exact h1 hc
 .rw[if_neg hc,if_neg hc];exact h2 hc
variable {xt:aM}{k:E8}
theorem zJa {A:Pr->γ->δ->Prop}{F:Bool->cS γ}{F':Bool->cS δ}(hi:P.underlying xt=some (.int k))(hF:∀R3,xH P K R R3->aG P S K A (F true) R3 (F' true)):
 aG P S K A (match(generalizing:=false) (some xt:Option aM) with|some xt=>do let l<-underlying xt;let zeros<-pure (match l with| .int k=>true|x=>false);F zeros|none=>do let zeros<-pure false;F zeros) R
  (match(generalizing:=false) (some xt:Option aM) with|some xt=>do let l<-underlying xt;let zeros<-pure (match l with| .int k=>true|x=>false);F' zeros|none=>do let zeros<-pure false;F' zeros):=by
 refine aG.bnd (lU xt) ?_;rintro R3 h3 d _ ⟨rfl,zgO⟩;obtain rfl:d=.int k:=cD (zgO.symm.trans hi);refine aG.bnd (A:=λ_ a b=>a=true/\b=true) (aG.ret ⟨rfl,rfl⟩) ?_;rintro R4 h4 _ _ ⟨rfl,rfl⟩;exact hF R4 (h3.trans h4)
theorem zyd (hz:Hl P S)(t:aM)(e1:ts[1]? =some xt)(hi:P.underlying xt=some (.int k))(h:bK S K R xs bX):
 aG P S K (VA S K) (wG ts t xs) R (wG ts t bX):=by
 unfold wG
 cases e0:ts[0]? with
 |none=>exact .inl bM
 |some st=>
  have ho:=h.opt 0;have yM:=h.opt 1;generalize xs[0]? =o at ho;generalize bX[0]? =o' at ho;generalize xs[1]? =p at yM;generalize bX[1]? =p' at yM
  cases ho with
  |none=>exact .inl bM
  |some hs=>
   cases yM with
   |none=>exact .inl bM
   |some hx=>
    rename_i s s' x x';simp only;refine aG.bnd (lU st) ?_;rintro R1 h1 d _ ⟨rfl,hd⟩
    cases d with
    |slice elem=>
     cases hs with
     |slice hb=>
      rename_i b b' n c;refine aG.bnd (Ab elem) ?_;rintro R2 h2 size _ rfl;have pI:=(hb.mono h1.le).mono h2.le;have Am:=(hx.mono h1.le).mono h2.le;rw[e1];refine zJa hi ?_;intro R3 h3;rw[if_pos rfl,if_pos rfl];refine aG.bnd (Vg (Am.mono h3.le)) ?_;rintro R4 h4 l0 _ rfl;refine aG.ite (λ_=>.inl (eW.bnd uR _)) (λ_=>?_);refine aG.bnd (Dj elem) ?_;rintro zLV zBv zL3 _ ⟨rfl,fL⟩;refine aG.ite (λ_=>.inl (eW.then (zjF _) λ_=>eW.bnd uR _)) (λ_=>?_);refine aG.bnd (A:=lN) (aG.ret rfl) ?_;rintro zJ7 zAU m _ rfl;have O5:=(((pI.mono h3.le).mono h4.le).mono zBv.le).mono zAU.le;have new:∀{R5:Pr},aG P S K (λR a b=>bK S K R a b) (if(!true)=true then Sl size m x else if m*size=0 then pure #[] else do pure (pS (<-zeroValue elem).cells m)) R5 (if(!true)=true then Sl size m x' else if m*size=0 then pure #[] else do pure (pS (<-zeroValue elem).cells m)):=by
       intro R5;refine aG.ite (λh=>by cases h) (λ_=>?_);refine aG.ite (λ_=>aG.ret bK.empty) (λ_=>?_);exact aG.bnd (O7 hz elem) λR6 h6 z z' pD=>aG.ret (zgR pD.cells _)
      refine aG.ite (λ_=>?_) (λ_=>?_)
      .refine aG.bnd new ?_
       intro R5 h5 w w' hw;have Zw:=O5.mono h5.le
       cases Zw with
       |none=>exact aG.ret (.slice .none)
       |some ha=>
        refine aG.bnd (U4 _ _ 0 (ha.add _) hw.toList) ?_;rintro R6 h6 _ _ rfl;exact aG.ret (.slice (.some (ha.mono h6.le)))
      .refine aG.bnd (Dj elem) ?_
       rintro zKL zJl zKF _ ⟨rfl,y5⟩;refine aG.ite (λ_=>.inl (eW.bnd uR _)) (λ_=>?_);refine aG.bnd (Dj elem) ?_;rintro R6 h6 zFg _ ⟨rfl,znt⟩;have tN:=(O5.mono zJl.le).mono h6.le;refine aG.ite (λ_=>.inl (eW.bnd (by rw[if_pos rfl];exact uR) _)) (λ_=>?_);refine aG.bnd (zf3 _) ?_;rintro R7 h7 nc _ rfl;refine aG.bnd (Dj elem) ?_;rintro R8 h8 zzi _ ⟨rfl,zDl⟩;refine aG.bnd (zjj _) ?_;rintro R9 h9 _ _ rfl;have xU:=((tN.mono h7.le).mono h8.le).mono h9.le;refine aG.bnd (zb2 size n (.slice xU)) ?_;intro zJc N7 o o' ho;refine aG.bnd new ?_;intro zAi S4 w w' hw;refine aG.bnd (O7 hz elem) ?_;intro zAS zbC z z' pD;refine aG.bnd (zaT elem (((ho.mono (S4.trans zbC).le).append (hw.mono zbC.le)).append (zgR pD.cells _))) ?_;intro zB6 zyj r r' hr;exact aG.ret (.slice (.some hr))
     |_=>exact .inl bM
    |_=>exact .inl bM
theorem zHv (hz:Hl P S)(ts:Array aM)(t:aM)(h:bK S K R xs bX):aG P S K (VA S K) (Qn ts t xs) R (Qn ts t bX):=by
 unfold Qn
 cases e0:ts[0]? with
 |none=>exact .inl bM
 |some st=>
  have ho:=h.opt 0;generalize xs[0]? =o at ho;generalize bX[0]? =o' at ho;have fin:∀{R2:Pr},aG P S K (VA S K) (pure (.tuple #[])) R2 (pure (.tuple #[])):=aG.ret (VR.tuple' bK.empty)
  cases ho with
  |none=>exact .inl bM
  |some hs=>
   simp only;refine aG.bnd (lU st) ?_;rintro R1 h1 d _ ⟨rfl,hd⟩
   cases hs with
   |map hm=>
    cases hm with
    |none=>cases d<;>exact fin
    |some hm=>
     cases d
     all_goals
      refine aG.bnd (Sw (h1.le _ _ hm)) ?_;intro R2 h2 o o' ho
      cases ho with
      |map he=>exact aG.bnd (zaz (h2.le _ _ (h1.le _ _ hm)) (.map ⟨rfl,λi e e' h=>by simp at h⟩)) (λ_ _ _ _ _=>fin)
      |_=>exact .inl (by first|exact bM|exact bM.bnd _)
   |slice hb=>
    rename_i b b' n c
    cases hb with
    |none=>cases d<;>exact fin
    |some ha=>
     cases n with
     |zero=>cases d<;>exact fin
     |succ n=>
      cases d with
      |slice elem=>
       refine aG.bnd (O7 hz elem) ?_;intro R2 h2 z z' pD;refine aG.bnd (U4 _ _ 0 ((ha.mono h1.le).mono h2.le) (zgR pD.cells _).toList) ?_;rintro R6 h6 _ _ rfl;exact fin
      |_=>exact .inl (bM.bnd _)
   |_=>cases d<;>exact .inl (bM.bnd _)
end
section
variable {P:dI}{S:aN->Prop}{K:Pr}{α β γ δ:Type}{R:Pr}
theorem zzp (t:aM){v v':aF}(h:VR S K R v v'):aG P S K (VA S K) (zgZ t v) R (zgZ t v'):=by
 unfold zgZ;refine aG.bnd (lU t) ?_;rintro R1 h1 d _ ⟨rfl,hd⟩
 cases d with
 |interface _=>exact .inl bM
 |_=>exact aG.ret (.iface (h.mono h1.le))
theorem zw5 {z z':Array aF}(h:bK S K R z z')(n:Nat):bK S K R ((J7 n).map (z[·%z.size]!)) ((J7 n).map (z'[·%z'.size]!)):=by
 refine⟨aQ,λi v v' h1 h2=>?_⟩;rw[xP] at h1 h2;rw[<-h.1] at h2
 cases q:(J7 n)[i]? with
 |none=>rw[q] at h1;cases h1
 |some j=>
  rw[q] at h1 h2;cases h1;cases h2
  cases q1:z[j%z.size]? with
  |none=>
   have q2:=h.none q1;show VR S K R (z[j%z.size]!) (z'[j%z.size]!);rw[getElem!_def,getElem!_def,q1,q2];exact .bool false
  |some u=>
   obtain⟨u',q2,hu⟩:=h.get q1;show VR S K R (z[j%z.size]!) (z'[j%z.size]!);rw[getElem!_def,getElem!_def,q1,q2];exact hu
theorem zpw (hz:Hl P S)(n:Nat)(e:aM){F F':Array aF->cS aF}(hF:∀R1,xH P K R R1->∀z z',bK S K R1 z z'->aG P S K (VA S K) (F z) R1 (F' z')):
 aG P S K (VA S K) (if n=0 then do let z<-pure #[];F z else do let l<-zeroValue e;let z<-pure l.cells;F z) R (if n=0 then do let z<-pure #[];F' z else do let l<-zeroValue e;let z<-pure l.cells;F' z):=by
 split
 .exact aG.bnd (aG.ret (A:=λR a b=>bK S K R a b) bK.empty) hF
 .refine aG.bnd (O7 hz e) ?_
  intro R1 h1 z z' pD;exact aG.bnd (aG.ret (A:=λR a b=>bK S K R a b) pD.cells) (λR2 h2 a b qE=>hF R2 (h1.trans h2) a b qE)
theorem zHX (hz:Hl P S)(t:aM){l l' c c':aF}(hl:VR S K R l l')(hc:VR S K R c c'):aG P S K (VA S K) (zeT t l c) R (zeT t l' c'):=by
 unfold zeT;refine aG.bnd (lU t) ?_;rintro R1 h1 d _ ⟨rfl,hd⟩
 cases d with
 |slice elem=>
  refine aG.bnd (Vg (hl.mono h1.le)) ?_;rintro R2 h2 ln _ rfl;refine aG.bnd (Vg ((hc.mono h1.le).mono h2.le)) ?_;rintro R3 h3 cp _ rfl;refine aG.bnd (Dj elem) ?_;rintro R4 h4 inf _ ⟨rfl,hi⟩;simp only;split
  .left
   split
   .exact uR.bnd _
   .split
    .exact uR.bnd _
    .exact eW.then (zjF _) λ_=>uR.bnd _
  .refine aG.bnd (zjj _) ?_
   rintro R5 h5 _ _ rfl;refine aG.bnd (Ab elem) ?_;rintro R6 h6 sz _ rfl;refine zpw hz _ elem ?_;intro R7 h7 z z' pD;refine aG.bnd (zaT elem (zw5 pD _)) ?_;intro R8 h8 r r' hr;exact aG.ret (.slice (.some hr))
 |_=>exact .inl bM
inductive Kg (S:aN->Prop)(K R:Pr):List (Nat×aF)->List (Nat×aF)->Prop
 |nil:Kg S K R [] []
 |cons {i:Nat} {v v':aF} {l l':List (Nat×aF)}:VR S K R v v'->Kg S K R l l'->Kg S K R ((i,v)::l) ((i,v')::l')
theorem Kg.mono {R':Pr}(hR:R.le R'){l l':List (Nat×aF)}(h:Kg S K R l l'):Kg S K R' l l':=by
 induction h with
 |nil=>exact .nil
 |cons a _ ih=>exact .cons (a.mono hR) ih
inductive OarR (S:aN->Prop)(K R:Pr):Option (Array aF)->Option (Array aF)->Prop
 |none:OarR S K R none none
 |some {c c':Array aF}:bK S K R c c'->OarR S K R (some c) (some c')
theorem zv3 (off:Nat):∀(l l':List aF) (j:Nat) {c c':Array aF},xN S K R l l'->bK S K R c c'->
 bK S K R ((l.zipIdx j).foldl (λcs (x:aF×Nat)=>cs.setIfInBounds (off+x.2) x.1) c) ((l'.zipIdx j).foldl (λcs (x:aF×Nat)=>cs.setIfInBounds (off+x.2) x.1) c')
 |[],[],j,c,c',_,h=>h
 |[],_::_,_,_,_,h,_=>by have:=h.1;simp at this
 |_::_,[],_,_,_,h,_=>by have:=h.1;simp at this
 |x::l,x'::l',j,c,c',h,hc=>by
  obtain⟨a,b⟩:=h.cons;simp only[List.zipIdx_cons,List.foldl_cons];exact zv3 off l l' (j+1) b (hc.set _ a)
theorem zkj (place:Nat->Option (Nat×Nat)):∀(l l':List (Nat×aF)) {c c':Array aF},Kg S K R l l'->bK S K R c c'->OarR S K R (Mn place c l) (Mn place c' l')
 |[],_,c,c',.nil,h=>.some h
 |(i,v)::l,(_,v')::l',c,c',.cons a b,h=>by
  unfold Mn
  cases place i with
  |none=>exact .none
  |some os=>
   obtain⟨off,size⟩:=os;have e1:=a.cells.1;have e2:=h.1;simp only;rw[e1,e2];split
   .exact .none
   .refine zkj place l l' b ?_
    have:=zv3 off v.cells.toList v'.cells.toList 0 a.cells.toList h;rw[<-ztq,<-ztq];simpa using this
variable {ps Pw:Array (Nat×aF)}
theorem zzX (hz:Hl P S)(t:aM)(n:Nat)(h:Kg S K R ps.toList Pw.toList):aG P S K (VA S K) (ziN t n ps) R (ziN t n Pw):=by
 unfold ziN;refine aG.bnd (lU t) ?_;rintro R1 h1 d _ ⟨rfl,hd⟩
 cases d with
 |slice elem=>
  refine aG.bnd (Ab elem) ?_;rintro R2 h2 size _ rfl;simp only;split
  .exact .inl (eW.bnd kV _)
  .refine zpw hz _ elem ?_
   intro R3 h3 z z' pD;have hf:=zkj (λi=>some (i*size,size)) _ _ (((h.mono h1.le).mono h2.le).mono h3.le) (zw5 pD (n*size));revert hf;generalize Mn _ _ ps.toList=o;generalize Mn _ _ Pw.toList=o';intro hf
   cases hf with
   |none=>exact .inl bM
   |some hc=>
    refine aG.bnd (zaT elem hc) ?_;intro R8 h8 r r' hr;exact aG.ret (.slice (.some hr))
 |_=>exact .inl bM
theorem zvn {ι κ:Type}{f:ι->cS κ}(hf:∀x (R:Pr),aG P S K lN (f x) R (f x)):∀(l:List ι) {R:Pr},aG P S K lN (l.mapM f) R (l.mapM f)
 |[],R=>by rw[List.mapM_nil];exact aG.ret rfl
 |x::l,R=>by
  rw[List.mapM_cons];refine aG.bnd (hf x R) ?_;rintro R1 h1 a _ rfl;refine aG.bnd (zvn hf l) ?_;rintro R2 h2 b _ rfl;exact aG.ret rfl
theorem zx6 (hz:Hl P S)(t:aM)(h:Kg S K R ps.toList Pw.toList):aG P S K (VA S K) (zmk t ps) R (zmk t Pw):=by
 have fin:∀{R3:Pr} (place:Nat->Option (Nat×Nat)) (Q0:String) {z z':Array aF},R.le R3->bK S K R3 z z'->aG P S K (VA S K) (match Mn place z ps.toList with|some cells=>pure (.agg cells)|_=>stuck Q0) R3 (match Mn place z' Pw.toList with|some cells=>pure (.agg cells)|_=>stuck Q0):=by
  intro R3 place Q0 z z' hle pD;have hf:=zkj place _ _ (h.mono hle) pD;revert hf;generalize Mn _ _ ps.toList=o;generalize Mn _ _ Pw.toList=o';intro hf
  cases hf with
  |none=>exact .inl bM
  |some hc=>exact aG.ret (VR.agg' hc)
 unfold zmk;refine aG.bnd (O7 hz t) ?_;intro R1 h1 z z' pD;refine aG.bnd (lU t) ?_;rintro R2 h2 d _ ⟨rfl,hd⟩
 cases d with
 |struct fields=>
  refine aG.bnd (A:=lN) ?_ ?_
  .rw[Array.mapM_eq_mapM_toList,map_eq_pure_bind]
   refine aG.bnd (zvn (λf R=>aG.bnd (Ab _) (λR1 h1 a b e=>by cases e;exact aG.ret rfl)) fields.toList) ?_;rintro R3 h3 l _ rfl;exact aG.ret rfl
  .rintro R3 h3 places _ rfl
   exact fin _ _ (h1.trans (h2.trans h3)).le ((pD.cells.mono h2.le).mono h3.le)
 |array n elem=>
  refine aG.bnd (Ab elem) ?_;rintro R3 h3 size _ rfl;exact fin _ _ (h1.trans (h2.trans h3)).le ((pD.cells.mono h2.le).mono h3.le)
 |_=>exact .inl bM
end
section
variable {P:dI}{S:aN->Prop}{K:Pr}{R:Pr}
theorem ztd (op:Lo)(k:E8)(a b:Int):aG P S K (VA S K) (zwq op k a b) R (zwq op k a b):=by
 cases op<;>first|exact aG.ret (.int _ _)|exact .inl bM
theorem zyl (op:Lo)(k:E8)(a b:Int):aG P S K (VA S K) (zmO op k a b) R (zmO op k a b):=by
 unfold zmO;split
 .exact .inl uR
 .cases op<;>first|exact aG.ret (.int _ _)|exact .inl bM
theorem zuo (op:Lo)(k:E8)(a b:Int):aG P S K (VA S K) (zwO op k a b) R (zwO op k a b):=by
 cases op<;>first|exact aG.ret (.int _ _)|exact .inl bM
theorem zrV (op:Lo)(k:E8)(a:Int)(k':E8)(b:Int):aG P S K (VA S K) (zjD op k a k' b) R (zjD op k a k' b):=by
 unfold zjD;split
 .exact .inl uR
 .cases op<;>first|exact aG.ret (.int _ _)|exact .inl bM
theorem zil (op:Lo)(a b:Int):aG P S K (VA S K) (Op.intCmp op a b) R (Op.intCmp op a b):=by
 cases op<;>first|exact aG.ret (.bool _)|exact .inl bM
theorem zmD (op:Lo)(a b:ByteArray):aG P S K (VA S K) (zhu op a b) R (zhu op a b):=by
 unfold zhu;cases op<;>first|exact aG.ret (.bool _)|exact .inl bM|skip
 simp only;split
 .exact .inl kV
 .exact aG.ret (.string _)
variable {x x':aF}
theorem zzI (op:UnOp)(h:VR S K R x x'):aG P S K (VA S K) (Op.unary op x) R (Op.unary op x'):=by
 cases h with
 |int k n=>cases op<;>first|exact ztd .sub k 0 n|exact zuo .xor k _ n|exact .inl bM
 |bool b=>cases op<;>first|exact aG.ret (.bool _)|exact .inl bM
 |pointer h=>cases h<;>cases op<;>first|exact .inl kV|exact .inl bM
 |_=>cases op<;>exact .inl bM
theorem dI.cellOfByte_g (P:dI):∀(d:Nat) (t:aM) (o:Nat),cellOfByte P.g d t o=cellOfByte P.c d t o:=by
 intro d
 induction d with
 |zero=>intro t o;rfl
 |succ d ih=>
  intro t o;unfold cellOfByte;rw[P.underlying_g];simp only[ih,P.cells_g,P.bytes_g];rfl
theorem dI.cellAtBytes_g (P:dI)(d:Nat)(e:aM)(c o:Nat)(b:Int):cellAtBytes P.g d e c o b=cellAtBytes P.c d e c o b:=by
 unfold cellAtBytes;simp only[P.cells_g,P.bytes_g,P.byteOfCell_g,P.cellOfByte_g];rfl
variable {y y':aF}
theorem ztY (ts:Array aM)(t:aM)(hx:VR S K R x x')(hy:VR S K R y y'):aG P S K (λR v v'=>∃a a',v=.pointer a/\v'=.pointer a'/\wX R a a') (Ms ts t #[x,y]) R (Ms ts t #[x',y']):=by
 unfold Ms
 cases hx with
 |pointer hp=>
  refine aG.bnd (Vg hy) ?_;rintro R1 h1 n _ rfl;by_cases hn:n=0
  .simp only[if_pos hn]
   cases hp with
   |none=>exact .inl kV
   |some ha=>
    cases ha with
    |mk hr=>
     refine aG.bnd (zw1 (h1.le _ _ hr)) ?_;rintro R2 h2 _ _ ⟨rfl,rfl⟩;exact aG.ret ⟨_,_,rfl,rfl,.some (.mk (h2.le _ _ (h1.le _ _ hr)))⟩
  .simp only[if_neg hn]
   by_cases h0:n<0
   .simp only[if_pos h0]
    exact .inl (eW.bnd kV _)
   .simp only[if_neg h0]
    cases hp with
    |none=>exact .inl kV
    |some ha=>
     cases ha with
     |mk hr=>
      refine aG.bnd (Z9 (h1.le _ _ hr)) ?_;rintro R2 h2 x _ rfl
      cases x with
      |none=>exact .inl kV
      |some x=>
       obtain⟨e,n⟩:=x;refine aG.bnd Sp ?_;rintro R3 h3 p q ⟨rfl,rfl⟩;simp only[P.cells_g,P.depth_g,P.cellAtBytes_g];split
       .exact aG.ret ⟨_,_,rfl,rfl,.some (.mk (h3.le _ _ (h2.le _ _ (h1.le _ _ hr))))⟩
       .exact .inl kV
 |_=>exact .inl bM
theorem za2 (ts:Array aM)(t:aM)(hx:VR S K R x x')(hy:VR S K R y y'):aG P S K (VA S K) (Ms ts t #[x,y]) R (Ms ts t #[x',y']):=
 (ztY ts t hx hy).mono λR' _ a b h=>by
  obtain⟨p,p',rfl,rfl,h⟩:=h;exact .pointer h
variable {a':bO}
theorem zEE {a:bO}(h:fM R a a')(l:Bool):aG P S K (VA S K) (asNumber a l) R (asNumber a' l):=by
 unfold asNumber;refine aG.bnd (zcV (.number h)) ?_;rintro R1 h1 n n' hn;exact aG.ret (.pointer (.some (.mk hn)))
theorem zFB {a:bO}(h:fM R a a'):aG P S K (λR x y=>fM R x.1 y.1/\x.2=y.2) (behindNumber a) R (behindNumber a'):=by
 have h0:=h
 cases h with
 |mk h=>
  unfold behindNumber;refine aG.bnd (zjY h) ?_;rintro R1 h1 x y (⟨rfl,rfl⟩|⟨p,p',l,rfl,rfl,hp⟩)
  .exact aG.ret ⟨h0.mono h1.le,rfl⟩
  .exact aG.ret ⟨hp,rfl⟩
theorem zjG (t:aM)(hx:VR S K R x x')(hy:VR S K R y y'):aG P S K (VA S K) (movedNumber t x y) R (movedNumber t x' y'):=by
 unfold movedNumber;refine aG.bnd (lU t) ?_;rintro R1 h1 d _ ⟨rfl,_⟩
 have k:aG P S K (VA S K) (do
  let .pointer (some n):=x|Ms #[] t #[x,y]
  let(a,lost)<-behindNumber n
  match<-Ms #[] t #[.pointer (some a),y] with
  | .pointer (some b)=>asNumber b lost
  |v=>pure v) R1 (do
  let .pointer (some n):=x'|Ms #[] t #[x',y']
  let(a,lost)<-behindNumber n
  match<-Ms #[] t #[.pointer (some a),y'] with
  | .pointer (some b)=>asNumber b lost
  |v=>pure v):=by
  have Dt:=hx.mono h1.le;have Oy:=hy.mono h1.le
  cases hx with
  |pointer hp=>
   cases hp with
   |none=>exact za2 _ _ Dt Oy
   |some ha=>
    refine aG.bnd (zFB (ha.mono h1.le)) ?_;rintro R2 h2 ⟨a,l⟩ ⟨a',l'⟩ ⟨h3,h4⟩;simp only at h3 h4;subst h4;refine aG.bnd (ztY _ _ (.pointer (.some h3)) (Oy.mono h2.le)) ?_;rintro R3 h5 v v' ⟨p,p',rfl,rfl,hb⟩
    cases hb with
    |none=>exact aG.ret (.pointer .none)
    |some hb=>exact zEE hb _
  |junk _=>exact .inl bM
  |_=>exact za2 _ _ Dt Oy
 cases d<;>first|exact k|exact .inl kV|exact .inl (eW.bnd kV _)
theorem zAP (t:aM)(hx:VR S K R x x')(hy:VR S K R y y'):aG P S K (VA S K) (movedPointer t x y) R (movedPointer t x' y'):=by
 unfold movedPointer;have sH:=hx
 cases hx with
 |pointer hp=>
  cases hp with
  |none=>exact za2 _ _ sH hy
  |some ha=>
   have Ob:=ha
   cases ha with
   |mk hr=>
    refine aG.bnd (zjY hr) ?_;rintro R1 h1 x y (⟨rfl,rfl⟩|⟨p,p',l,rfl,rfl,hp⟩)
    .exact za2 #[] t (sH.mono h1.le) (hy.mono h1.le)
    .exact .inl kV
 |_=>exact za2 _ _ sH hy
end
section
variable {P:dI}{S:aN->Prop}{K:Pr}{R:Pr}
variable {a a' b b':bO}
theorem zn5 (hR:tF P K R)(ha:fM R a a')(hb:fM R b b'):aG P S K lN (zjp a b) R (zjp a' b'):=by
 unfold zjp;refine aG.bnd zjt ?_;rintro R1 _ p q ⟨rfl,rfl,rfl⟩;have e1:=fM.block_eq hR ha hb;have e2:=fM.low hR ha;have e3:decide (a.block>=P.globals.size)=decide (a'.block>=P.globals.size):=by
  have:=decide_eq_decide.1 e2;exact decide_eq_decide.2 aD
 have hc:(a.block !=b.block||decide (a.block>=P.g.globals.size))=(a'.block !=b'.block||decide (a'.block>=P.c.globals.size)):=by
  rw[P.globals_g];show(!(a.block==b.block)||_)=(!(a'.block==b'.block)||_);rw[e1];congr 1
 by_cases h:(a.block !=b.block||decide (a.block>=P.g.globals.size))=true
 .simp only[if_pos h]
  exact .inl (eW.bnd kV _)
 .have h':¬(a'.block !=b'.block||decide (a'.block>=P.c.globals.size))=true:=by rw[<-hc];exact h
  simp only[if_neg h,if_neg h'];refine aG.bnd (S8 ha) ?_;rintro R4 h4 m _ rfl;refine aG.bnd (S8 (hb.mono h4.le)) ?_;rintro R5 h5 m' _ rfl;exact aG.ret rfl
theorem zGZ (hR:tF P K R)(k:E8)(ha:fM R a a')(hb:fM R b b'):aG P S K (VA S K) (zhl k a b) R (zhl k a' b'):=by
 unfold zhl;refine aG.bnd (zn5 hR ha hb) ?_;rintro R1 _ ⟨x,y⟩ _ rfl;exact aG.ret (.int _ _)
theorem zx1 (hR:tF P K R)(op:Lo)(ha:fM R a a')(hb:fM R b b'):aG P S K (VA S K) (zja op a b) R (zja op a' b'):=by
 unfold zja;refine aG.bnd (zn5 hR ha hb) ?_;rintro R1 _ ⟨x,y⟩ _ rfl;cases op<;>first|exact aG.ret (.bool _)|exact .inl kV
theorem zou (k:E8)(ha:fM R a a')(n:Int):aG P S K (VA S K) (zkc k a n) R (zkc k a' n):=by
 unfold zkc;have Ob:=ha
 cases ha with
 |mk hr=>
  refine aG.bnd (Z9 hr) ?_;rintro R1 h1 x _ rfl
  cases x with
  |none=>exact .inl kV
  |some x=>
   obtain⟨e,c⟩:=x;refine aG.bnd (Dj e) ?_;rintro R2 h2 i _ ⟨rfl,_⟩;simp only;split
   .exact .inl (eW.bnd kV _)
   .refine aG.bnd (S8 (Ob.mono (h1.trans h2).le)) ?_
    rintro R3 h3 m _ rfl;exact aG.ret (.int _ _)
theorem zFv (op:Lo)(t:aM){x y:aF}(ho:op≠ .eql/\op≠ .neq)(hx:∀k n,x≠ .int k n)(hs:∀s,x≠ .string s)(hp:∀a,x≠ .pointer a)(hf:∀k n,x≠ .float k n)(hc:∀k n m,x≠ .complex k n m):eW P (binOp op t x y):=by
 unfold binOp;split<;>first|exact bM|exact kV|(exfalso;first|exact hx _ _ rfl|exact hs _ rfl|exact hp _ rfl|exact hf _ _ rfl|exact hc _ _ _ rfl|exact ho.1 rfl|exact ho.2 rfl)
theorem zC3 (op:Lo)(t:aM)(ho:op≠ .eql/\op≠ .neq)(hR:tF P K R){x x' y y':aF}(hx:VR S K R x x')(hy:VR S K R y y'):
 aG P S K (VA S K) (binOp op t x y) R (binOp op t x' y'):=by
 have sH:=hx;have Tz:=hy
 cases hx with
 |int k a=>
  cases hy with
  |int k' b=>
   by_cases hk:k=k'
   .subst hk
    cases op<;>simp only[binOp,ne_eq,not_true_eq_false,if_false]<;>first|exact ztd _ _ _ _|exact zyl _ _ _ _|exact zuo _ _ _ _|exact zrV _ _ _ _ _|exact zil _ _ _
   .cases op<;>simp only[binOp,ne_eq,hk,not_false_eq_true,if_true]<;>first|exact zrV _ _ _ _ _|exact .inl bM
  |pointer hp=>
   cases op<;>first|exact absurd rfl ho.1|exact absurd rfl ho.2|exact zjG t Tz sH|skip
   all_goals(cases hp<;>first|exact .inl kV|skip)
   rename_i hb;refine aG.bnd (zwp hb) ?_;intro R1 h1 u v zj4;exact zou _ zj4 _
  |_=>cases op<;>first|exact absurd rfl ho.1|exact absurd rfl ho.2|exact .inl bM
 |string a=>
  cases hy with
  |string b=>cases op<;>simp only[binOp]<;>exact zmD _ _ _
  |pointer hp=>cases op<;>first|exact absurd rfl ho.1|exact absurd rfl ho.2|exact .inl kV
  |_=>cases op<;>first|exact absurd rfl ho.1|exact absurd rfl ho.2|exact .inl bM
 |pointer hp=>
  cases hy with
  |int k n=>
   have e:∀m,VR S K R (.int k m) (.int k m):=λm=>.int k m;cases op<;>first|exact absurd rfl ho.1|exact absurd rfl ho.2|exact zjG t sH (e _)|skip
   all_goals first|(cases hp<;>first|exact .inl kV|(rename_i hb;refine aG.bnd (zwp hb) ?_;intro R1 h1 u v zj4;exact zou _ zj4 _))|skip
   all_goals
    simp only[binOp];refine aG.bnd (lU t) ?_;rintro R1 h1 d _ ⟨rfl,_⟩;cases d<;>first|exact zAP t (sH.mono h1.le) (Tz.mono h1.le)|exact zjG t (sH.mono h1.le) (Tz.mono h1.le)
  |pointer hq=>
   cases hp with
   |none=>cases hq<;>cases op<;>first|exact absurd rfl ho.1|exact absurd rfl ho.2|exact .inl kV
   |some ha=>
    cases hq with
    |none=>cases op<;>first|exact absurd rfl ho.1|exact absurd rfl ho.2|exact .inl kV
    |some hb=>
     have two:∀{F F':bO->bO->cS aF},(∀u u' v v',fM R u u'->fM R v v'->aG P S K (VA S K) (F u v) R (F' u' v'))->∀{a1 zmE a2 zme},fM R a1 zmE->fM R a2 zme->
      aG P S K (VA S K) (do F (<-behindNumber a1).1 (<-behindNumber a2).1) R (do F' (<-behindNumber zmE).1 (<-behindNumber zme).1):=by
      intro F F' hF a1 zmE a2 zme h1 h2;refine aG.bnd (zeH h1) ?_;rintro R1 _ u u' ⟨rfl,hu⟩;refine aG.bnd (zeH h2) ?_;rintro R2 _ v v' ⟨rfl,hv⟩;exact hF _ _ _ _ hu hv
     cases op<;>first|exact absurd rfl ho.1|exact absurd rfl ho.2|exact .inl kV|exact two (λu u' v v' h1 h2=>zGZ hR _ h1 h2) ha hb|exact two (λu u' v v' h1 h2=>zx1 hR _ h1 h2) ha hb
  |_=>cases op<;>first|exact absurd rfl ho.1|exact absurd rfl ho.2|exact .inl kV|(cases hp<;>exact .inl kV)
 |_=>exact .inl (zFv op t ho aQ aQ aQ aQ aQ)
end
def Ends {α:Type}(r:Result α):Prop:=(∃x w',r=.ok x w')\/∃h w',r=.halt h w'/\Yw h
def Ends.halt {h:Halt}(ht:Yw h):Ends (.halt h w:Result α):=.inr ⟨h,w,rfl,ht⟩
theorem aG.tame {A:Pr->α->β->Prop}{G:Gp}(hG:G=P.gp)(s:cS α):
 ∀{R:Pr} {w W:aE} {s':cS β},aG P S K A s R s'->cT S K R G St w W->Tp w W->Ends (s.run P.g w):=by
 induction s with
 |pure a=>
  rintro R w W s' (hn|⟨b,rfl,h⟩) hw ht
  .exact .inr (hn _ hw.np)
  exact .inl ⟨a,w,rfl⟩
 |load m a k ih=>
  rintro R w W s' (hn|⟨rfl,a',k',rfl,ha,hk⟩) hw ht
  .exact .inr (hn _ hw.np)
  obtain⟨qE⟩:=ha;rename_i b b' o sp;obtain⟨ob,xJ,h1,h2,h3⟩:=hw.cont b b' qE
  cases h3 with
  |cells hc hz=>
   rename_i c c' T fz Im
   cases sp with
   |some sp=>simp only[bD,kY,h1,x4,qJ];exact .halt trivial
   |none=>
    cases hv:c[o]? with
    |none=>simp only[bD,kY,h1,x4,qJ,hv];exact .halt trivial
    |some v=>
     obtain⟨v',Ni,vI⟩:=hc.get hv;have e1:w.cell? ⟨b,o,none⟩=some v:=by simp[kY,h1,hv]
     rw[bD,e1];exact ih v (hk v v' vI) hw ht
  |_=>simp only[bD,kY,h1,x4,qJ];exact .halt trivial
 |store m a v k ih=>
  rintro R w W s' (hn|⟨rfl,a',v',k',rfl,ha,hv,hk⟩) hw ht
  .exact .inr (hn _ hw.np)
  obtain⟨qE⟩:=ha;rename_i b b' o sp;by_cases Mk:∃cs,v=.agg cs
  .obtain⟨cs,rfl⟩:=Mk;rw[bD];exact .halt trivial
  by_cases Bj:∃cs,v=.tuple cs
  .obtain⟨cs,rfl⟩:=Bj;rw[bD];exact .halt trivial
  rw[bD]
  rotate_left
  .exact λcs e=>Mk ⟨cs,e⟩
  .exact λcs e=>Bj ⟨cs,e⟩
  obtain⟨ob,xJ,h1,h2,h3⟩:=hw.cont b b' qE
  cases h3 with
  |cells hc hz=>
   rename_i c c' T fz Im
   cases sp with
   |some sp=>simp only[kY,h1,Cr,qJ];exact .halt trivial
   |none=>
    cases eM:c[o]? with
    |none=>simp only[kY,h1,Cr,qJ,eM];exact .halt trivial
    |some v0=>
     have e1:w.cell? ⟨b,o,none⟩=some v0:=by simp[kY,h1,eM]
     rw[e1];simp only
     cases mH:w.frozen? ⟨b,o,none⟩ with
     |true=>exact .halt trivial
     |false=>
      simp only[iU,if_false];have Ut:¬Ja fz o:=by
       intro⟨z1,z2⟩;simp[To,h1,z1,z2] at mH
      have yW:¬St b:=by
       intro hs;obtain⟨_,c2,T2,hi,g1,g2⟩:=hw.st b hs;rw[h1] at g1;injection g1 with g1;injection g1 with g1 _ g3;subst g1 g3;exact Ut ⟨lB _,lA (dM.1 eM).1 g2⟩
      rw[Y7 h1];have st:=mL.upd hw qE yW (oA.cells (T:=T) (hc.set o hv) hz);exact ih hk st.rel (ht.step st)
  |_=>simp only[kY,h1,Cr,qJ];exact .halt trivial
 |new o k ih=>
  rintro R w W s' (hn|⟨o',k',rfl,ho,hk⟩) hw ht
  .exact .inr (hn _ hw.np)
  rw[bD];have st:=mL.push hw ho;exact ih _ (hk _ _ ⟨λb hb=>absurd (hw.lt _ _ hb).1 (Cb _),λa ha=>absurd (hw.lt _ _ ha).2 (Cb _),by subst hG;exact hw.gle⟩) st.rel (ht.step st)
 |shape r k ih=>
  rintro R w W s' (hn|⟨r',k',rfl,sD,hk⟩) hw ht
  .exact .inr (hn _ hw.np)
  rw[bD];exact ih _ (hk _) hw ht
 |freeze a n k ih=>
  rintro R w W s' (hn|h) hw ht
  .exact .inr (hn _ hw.np)
  .exact h.elim
 |frozen a k ih=>
  rintro R w W s' (hn|⟨r',k',rfl,hk⟩) hw ht
  .exact .inr (hn _ hw.np)
  rw[bD];exact ih _ (hk _ true) hw ht
 |getObj r k ih=>
  rintro R w W s' (hn|⟨r',k',rfl,sD,hk⟩) hw ht
  .exact .inr (hn _ hw.np)
  rw[bD];rcases hw.orR sD with x|x
  .obtain⟨ob,xJ,h1,h2,h3⟩:=hw.cont r r' x
   rw[h1];have go:=ih ob (hk _ _ h3) hw ht;cases h3<;>first|exact go|exact .halt trivial
  .rw[x];exact .halt trivial
 |setObj r o k ih=>
  rintro R w W s' (hn|⟨r',o',k',rfl,sD,ho,hk⟩) hw ht
  .exact .inr (hn _ hw.np)
  rw[bD];rcases hw.orR sD with x|x
  .obtain⟨ob,xJ,h1,h2,h3⟩:=hw.cont r r' x
   rw[h1];have go:(∀c T fz,ob≠ .cells c T fz)->Ends (k.run P.g {w with heap:=w.heap.setIfInBounds r o}):=λn1=>by
    have yW:¬St r:=by
     intro hs;obtain⟨_,c2,T2,hi,g1,g2⟩:=hw.st r hs;rw[h1] at g1;injection g1 with g1;exact n1 _ _ _ g1
    have st:=mL.upd hw x yW ho;exact ih hk st.rel (ht.step st)
   cases h3<;>first|exact go aQ|exact .halt trivial
  .rw[x];exact .halt trivial
 |choose q k ih=>
  rintro R w W s' (hn|⟨k',rfl,hk⟩) hw ht
  .exact .inr (hn _ hw.np)
  rw[bD]
  cases hq:q.forced with
  |true=>
   simp only[if_true];exact ih 0 (hk 0) hw ht
  |false=>
   simp only[iU,if_false];have st:=mL.draw hw;exact ih _ (hk _) st.rel (ht.step st)
 |sys c k ih=>
  rintro R w W s' (hn|h) hw ht
  .exact .inr (hn _ hw.np)
  .exact h.elim
 |program k ih=>
  rintro R w W s' (hn|⟨k',rfl,hk⟩) hw ht
  .exact .inr (hn _ hw.np)
  rw[bD];exact ih _ hk hw ht
 |mark m k ih=>
  rintro R w W s' (hn|⟨rfl,k',rfl,hk⟩) hw ht
  .exact .inr (hn _ hw.np)
  rw[bD];exact ih hk hw ht
 |halt h=>
  rintro R w W s' (hn|hx) hw ht
  .exact .inr (hn _ hw.np)
  .exact hx.elim
end Go.Tt
