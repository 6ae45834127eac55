/-
  Part 1 of what stands behind the last text.
-/
import Derived.Test.YtfcjiloojkjaeaaGreatDoorRows
import Derived.Lib.SmallJoins
import Derived.WalkSpells
import Derived.WalkLawsBesides
import Derived.BigQuiet
import Derived.Deep.OwnRows
import Derived.Deep.AppendLies
import Derived.Deep.AppendSrc
import Derived.Deep.RegionLaw
import Derived.Lib.ItoaLen
import Derived.Deep.Matrix
import Derived.Deep.RegionHeld3
import Derived.Deep.CutRange
import Derived.Conc.Own
set_option linter.all false
open Array renaming foldl_toList→zoh,getD_eq_getD_getElem?→xG,getElem?_eq_getElem→pS,getElem?_eq_none_iff→zuS,getElem?_eq_some_iff→eB,getElem?_map→Cy,getElem?_modify→zsw,getElem?_push→zlr,getElem?_push_lt→zsD,getElem?_setIfInBounds_ne→tL,range→Nw
open BitVec renaming ofInt→zk2
open Bool renaming eq_iff_iff→Nk,false_eq_true→iX
open Go renaming Addr→bC,BinOp→Nj,BoundsCode→zmv,Calls→gH,Ending→G3,FuncId→aQ,IntKind→C7,MapEntry→pJ,Obj→qD,Oper→aZ,Operand→cK,Program→bZ,Sem→cY,TypeDesc→zcb,TypeId→aM,TypeInfo→wE,Value→aF,World→aE,heap_alloc_new→gP,info_parts→Ch,run_append_own_at→zr2,yielded→dH
open Go.Addr renaming add→zgt
open Go.Builtin renaming append_→xV,cap_→zjm,clear_→Rz,copy_→Dq,delete_→Lu,firstCells→Tc,holdsCells→ziA,lenOf→zqV,len_→zmp,mayShare→zws,unsafeAdd_→N3,zeroCells→qJ
open Go.Ending renaming returned→zkG
open Go.Instr renaming alloc→ziX,box→zjM,build→zkQ,buildSlice→zlU,checkKey→Hy,extract→zjk,fieldAt→zjB,fill→Ns,findAsking→Lo,findKey→Ly,findNow→Hl,index→zkg,indexAt→zl1,keyThatStays→Px,loadAt→zhX,lookup→zZ,makeChan→zlB,makeInterface→zkw,makeMap→zic,makeSlice→zkr,mapUpdate→G5,sameBits→zbm,sameNow→wP,slice→Y5,sliceAt→Vv,sliceBound→K8,sliceBounds→Wj,storeAt→zjI,sureAddr→zvT
open Go.Lib renaming decDigits→Vy,itoa→Lh
open Go.Op renaming addrCmp→zjT,addrMod→zm2,addrSub→zhY,equal→zS,equalIn→Dx,intArith→zwQ,intBits→zsz,intDiv→zja,shift→zmU,stringOp→zj5,twoPlaces→zko
open Go.Oper renaming wp→C2
open Go.Proofs.Tryz renaming func48→zpd,func62→zg1,ntmps48→zoT,ntmps62→zgX,prog→aK,underlying57→Lf
open Go.Region renaming wanted→dE
open Go.Result renaming andThen_ok→Es
open Go.RowKit renaming Below→cF
open Go.RowKit.Below renaming heap_alloc→qE,heap_setCell→dU,refl→fW
open Go.Sem renaming events→xI,run→bL,runT→B8,run_bind→Fl,run_bind'→uR,run_pure→Ic
open Go.Value renaming cells→Ys,okWide→zwA,oneCell'→zuV,ownBlock→Mr,tuple→Ym
open Go.World renaming cell?→lW,cell?_alloc_lt→zx1,cell?_of_block→Cc,farLoad→y9,farStore→Dp,frozen?→Jg,news_of_block→Dn,noCell→rR,setCell→zcp,shape?→zcR,size_setCell→xA
open Int renaming emod_lt_of_pos→znd,emod_nonneg→zlu,eq_ofNat_of_zero_le→zsO
open List renaming cons_append→Ra,ext_getElem?→zml,filter_append→Pl,filter_cons→zuR,flatMap_cons→zdt,getElem?_eq_getElem→mV,getElem?_eq_none→Ue,getElem?_eq_some_iff→kP,getElem?_modify→J0,length_append→jH,length_cons→rG,length_drop→yG,length_filter_le→za1,length_modify→Lt,length_nil→wD,length_take→sE,map_cons→gT,map_nil→tW,map_toArray→vD,mem_iff_getElem→Lw,nil_append→zgr,take_add_one→Ia,take_of_length_le→zP
open Nat renaming add_assoc→zcg,le_refl→bF,le_trans→eH,lt_irrefl→Ij,lt_of_le_of_lt→zav,lt_of_lt_of_le→jO,lt_or_ge→qX,lt_succ_self→yO,mod_lt→zpr,mul_le_mul_right→Dg,succ_mul→zmE,zero_add→qH,zero_le→lP
open Option.some renaming injEq→jP
open Pure renaming pure→mE
open UInt8 renaming ofNat→zdq
structure qT (P:Prop):Prop where
 o:P
def aD {P:Prop}(h:P):qT P:=⟨h⟩
set_option maxHeartbeats 16000000
set_option maxRecDepth 100000
def zzO (X:Array aZ)(i:Nat):Go.Oper:=X.getD i ⟨none,.nilCheck (.tmp 0),0,"",#[],none⟩
abbrev aV (X:Array aZ)(i:Nat)(d:Option Go.Tmp)(o:Go.Op)(g:Option (Nat×Bool):=none):Go.Oper:=⟨d,o,(zzO X i).type,(zzO X i).pos,(zzO X i).after,g⟩
namespace Go
theorem aC{P:Prop}(h:P:=by omega):P:=h
theorem aH{P:Prop}(h:P:=by decide):P:=h
theorem aT{P:Prop}(h:P:=by kernel_rfl):P:=h
theorem aN{P:Prop}(h:P:=by simp):P:=h
theorem oX{P:Prop}(h:P:=by simp;omega):P:=h
theorem Sk{P:Prop}(h:P:=by intro u hu;simp[bE.cells] at hu;rcases hu with rfl|rfl<;>rfl):P:=h
theorem Mp{P:Prop}(h:P:=by intro u hu;simp at hu;subst hu;rfl):P:=h
theorem tD{P:Prop}(h:P:=by simp_all):P:=h
theorem oL{P:Prop}(h:P:=by go_num):P:=h
theorem sU{P:Prop}(h:P:=by grind):P:=h
theorem Hg{P:Prop}(h:P:=by simp[Mr];omega):P:=h
theorem zph{P:Prop}(h:P:=by intro k hk aU;have cU:k=0\/k=1\/k=2\/k=3\/k=4\/k=6:=(by omega);rcases cU with rfl|rfl|rfl|rfl|rfl|rfl<;>rfl):P:=h
theorem zqG{P:Prop}(h:P:=by intro k hk aU;have cU:k=0\/k=1\/k=2\/k=3\/k=4\/k=5:=(by omega);rcases cU with rfl|rfl|rfl|rfl|rfl|rfl<;>rfl):P:=h
theorem L2{P:Prop}(h:P:=by simp only;omega):P:=h
theorem zab{P:Prop}(h:P:=by rw[hl.o];exact bF _):P:=h
theorem zfu{P:Prop}(h:P:=by first|(simp;done)|(simp;omega)):P:=h
theorem Wt{P:Prop}(h:P:=by simpa using h1):P:=h
theorem Y2{P:Prop}(h:P:=by simpa using h2):P:=h
theorem zve{P:Prop}(h:P:=by unfold uC;rw[zmY HC.o (by rw[hl.o];exact bF _)];rfl):P:=h
theorem Mw{P:Prop}(h:P:=by rw[bL]):P:=h
theorem Yq{P:Prop}(h:P:=by rw[eY];simp):P:=h
theorem zft{P:Prop}(h:P:=by have:=t.size;omega):P:=h
theorem zuu{P:Prop}(h:P:=by first|(simp[Mr];done)|(simp[Mr];omega)):P:=h
theorem zfV{P:Prop}(h:P:=by simpa using zxd.o):P:=h
theorem ziZ{P:Prop}(h:P:=by first|exact lV|exact bQ):P:=h
theorem zli{P:Prop}(h:P:=by first|exact bQ|exact lV):P:=h
theorem zfH{P:Prop}(h:P:=by simp;exact aU):P:=h
theorem zfa{P:Prop}(h:P:=by simpa using hb):P:=h
theorem zoG{P:Prop}(h:P:=by simpa using hF 0 _ rfl hf.1 hf.2):P:=h
theorem zeO{P:Prop}(h:P:=by simpa using h):P:=h
theorem zdK{P:Prop}(h:P:=by assumption):P:=h
end Go
namespace Go
def aP{α:Sort _}(a:α):∃y,y=a:=⟨_,rfl⟩
def zwO{p:Nat->Prop}(k:∀i,p i):p 0/\p 1/\p 2:=⟨k 0,k 1,k 2⟩
def eN{p:Nat->Prop}(k:∀i,p i):p 0/\p 1/\p 2/\p 3/\p 4/\p 5/\p 6/\p 7:=⟨k 0,k 1,k 2,k 3,k 4,k 5,k 6,k 7⟩
end Go
namespace Go.Proofs.YtfcjiloojkjaeaaGreatDoor
open Go.Joins Go.ChangeShapes Go.WideShapes Go.RowKit Go.Deep
def own:ownKnob aK.godebug=none:=aT
def ztw:laidOutB aK=true:=aT
end Go.Proofs.YtfcjiloojkjaeaaGreatDoor
namespace Go.Proofs.YtfcjiloojkjaeaaGreatDoor
open Go.RowKit
def inB (n lo hi:Int):Bool:=decide (lo<=n/\n<=hi)
theorem Lx {a b:Bool}(h:a=b):zkG (.bool a)=.returned (.bool b):=by rw[h]
theorem Hw {k:C7}{a b:Int}(h:a=b):zkG (.int k a)=.returned (.int k b):=by rw[h]
variable {W:aE}{N:Nat}{o:qD}
theorem iZ (hN:W.heap[N]? =some o):N<W.heap.size:=by
 rcases qX N W.heap.size with h|h
 .exact h
 .rw[Array.getElem?_eq_none h] at hN;cases hN
variable {w1:aE}
def mP (hb:cF W.heap.size W w1)(hN:W.heap[N]? =some o):w1.heap[N]? =some o/\N<w1.heap.size:=
 ⟨(hb.block N (iZ hN)).trans hN,jO (iZ hN) hb.size⟩
def dG (hN:W.heap[N]? =some o)(o':qD):(W.alloc o').heap[N]? =some o:=(qE W o' N (iZ hN)).trans hN
variable {w:aE}
def ztJ (h:cF w.heap.size w W)(hb:cF W.heap.size W w1):cF w.heap.size w w1:=h.trans (hb.mono h.size)
def eT (h:cF w.heap.size w W)(o:qD):cF w.heap.size w (W.alloc o):=h.alloc h.size o
variable {cs:Array aF}{T:aM}{fz:Nat×Nat}
def aI (h:w.heap[N]? =some (.cells cs T fz))(o:Nat):w.cell? ⟨N,o,none⟩=cs[o]? :=cell_of_row w N o cs T fz h
theorem zxj (n lo hi:Int)(w:aE):
 gH aK 49 #[.int .i64 n,.int .i64 lo,.int .i64 hi] w λe w'=>e=.returned (.bool (inB n lo hi))/\w'=w:=by
 go_enter Tryz.func49,Tryz.ntmps49
 go_wp2
 all_goals go_ret
 all_goals exact⟨Lx (by simp[inB];omega),rfl⟩
structure cG (w:aE)(lo hi s:Nat)(A:Option bC)(n c:Nat)(xs:List aF):Prop where
 len:xs.length=n*s
 le:n<=c
 cap:c<=maxLen
 at_:0<n->∃b off,A=some ⟨b,off,none⟩/\lo<=b/\b<hi/\b<w.heap.size/\∀j v,xs[j]? =some v->w.cell? ⟨b,off+j,none⟩=some v
variable {w':aE}{lo hi s n c:Nat}{A:Option bC}{xs:List aF}
theorem cG.keep (h:cG w lo hi s A n c xs)(hs:w.heap.size<=w'.heap.size)(k:∀b,lo<=b->b<hi->b<w.heap.size->w'.heap[b]? =w.heap[b]?):cG w' lo hi s A n c xs:=
 ⟨h.len,h.le,h.cap,λhn=>by
  obtain⟨b,off,e,h1,h2,h3,h4⟩:=h.at_ hn;exact⟨b,off,e,h1,h2,jO h3 hs,λj v hv=>(Cc (k b h1 h2 h3)).trans (h4 j v hv)⟩⟩
def cG.below (h:cG w lo hi s A n c xs)(hb:cF w.heap.size w w'):cG w' lo hi s A n c xs:=
 h.keep hb.size λb _ _ h3=>hb.block b h3
def cG.alloc (h:cG w lo hi s A n c xs)(o:qD):cG (w.alloc o) lo hi s A n c xs:=
 h.keep aN λb _ _ h3=>qE w o b h3
theorem cG.wide {xR lU:Nat}(h:cG w lo hi s A n c xs)(h1:xR<=lo)(h2:hi<=lU):cG w xR lU s A n c xs:=
 ⟨h.len,h.le,h.cap,λhn=>by obtain⟨b,off,e,k1,k2,k3,k4⟩:=h.at_ hn;exact⟨b,off,e,aC,aC,k3,k4⟩⟩
def fF (xs:List Int):List Value:=xs.map (aF.int .i64)
variable {k:Nat}{xs:List Int}
theorem zEZ (h:k<xs.length):(fF xs)[k]? =some (.int .i64 xs[k]):=by simp[fF,h]
theorem cG.cellAt (h:cG w lo hi 1 A n c (fF xs))(hk:k<n):∃b off v,A=some ⟨b,off,none⟩/\lo<=b/\b<hi/\b<w.heap.size/\xs[k]? =some v/\w.cell? ⟨b,off+k,none⟩=some (.int .i64 v):=by
 obtain⟨b,off,e,h1,h2,h3,h4⟩:=h.at_ aC;have hl:k<xs.length:=by have:=h.len;simp[fF] at this;omega
 exact⟨b,off,xs[k],e,h1,h2,h3,mV hl,h4 k _ (zEZ hl)⟩
theorem cG.length (h:cG w lo hi 1 A n c (fF xs)):xs.length=n:=by have:=h.len;simp[fF] at this;exact this
def zEU:(aK.info? 3).map (λi=>(i.zero,i.size,i.bytes))=some (some (.int .i64 0),1,8):=aT
theorem eW (h:w.heap[N]? =some (.cells cs T))(o:Nat):w.frozen? ⟨N,o,none⟩=false:=by simp[Jg,h]
theorem oH {g i:Nat}(h:w.heap[g]? =some (.cells cs T fz))(v:aF):(w.setCell ⟨g,i,none⟩ v).heap[g]? =some (.cells (cs.setIfInBounds i v) T fz):=by
 simp[zcp,zsw,h]
variable {ys:List Int}
theorem zBZ {u v:Int}(h1:xs[k]? =some u)(h2:ys[k]? =some v)(aU:¬u=v):(xs==ys)=false:=by
 rw[beq_eq_false_iff_ne];intro e;subst e;rw[h1] at h2;injection h2 with h2;exact aU h2
theorem zCk (hl:xs.length=ys.length)(h:∀j:Nat,j<xs.length->xs[j]? =ys[j]?):(xs==ys)=true:=by
 rw[beq_iff_eq];apply zml;intro j;rcases qX j xs.length with hj|hj
 .exact h j hj
 .rw[Ue hj,Ue aC]
def SaysB (w:aE)(t:Bool)(e:G3)(w':aE):Prop:=e=.returned (.bool t)/\∃m,w'=w.drewN m
structure Chg (lo hi:Nat)(w w':aE):Prop where
 os:w'.os=w.os
 tape:w'.tape=w.tape
 output:w'.output=w.output
 size:w.heap.size<=w'.heap.size
 block:∀i,i<w.heap.size->¬(lo<=i/\i<hi)->w'.heap[i]? =w.heap[i]?
def Chg.refl (lo hi:Nat)(w:aE):Chg lo hi w w:=⟨rfl,rfl,rfl,bF _,λ_ _ _=>rfl⟩
theorem Chg.setCell {a b:aE}(h:Chg lo hi a b){p:bC}(h1:lo<=p.block)(h2:p.block<hi)(v:aF):Chg lo hi a (b.setCell p v):=
 ⟨h.os,h.tape,h.output,by simpa[zcp] using h.size,λi hi aU=>(dU b p v i aC).trans (h.block i hi aU)⟩
structure Own (w:aE)(lo hi:Nat)(A:Option bC)(n c:Nat)(xs:List Int):Prop where
 slc:cG w lo hi 1 A n c (fF xs)
 blk:0<n->∃b cs,A=some ⟨b,0,none⟩/\w.heap[b]? =some (.cells cs 3)/\n<=cs.size
structure Bj (E s:Nat)(w:aE)(lo hi:Nat)(A:Option bC)(n c:Nat)(xs:List aF):Prop where
 slc:cG w lo hi s A n c xs
 blk:0<n->∃b cs,A=some ⟨b,0,none⟩/\w.heap[b]? =some (.cells cs E)/\n*s<=cs.size
section
variable {E s:Nat}{w w':aE}{lo hi n c:Nat}{A:Option bC}{xs:List aF}
theorem Bj.keep (h:Bj E s w lo hi A n c xs)(hs:w.heap.size<=w'.heap.size)(k:∀b,lo<=b->b<hi->b<w.heap.size->w'.heap[b]? =w.heap[b]?):Bj E s w' lo hi A n c xs:=
 ⟨h.slc.keep hs k,λhn=>by
  obtain⟨b,cs,e,hb,hc⟩:=h.blk hn;obtain⟨b',off,e',h1,h2,h3,_⟩:=h.slc.at_ hn;rw[e] at e';injection e' with e';injection e' with e1 e2 e3;subst e1;exact⟨b,cs,e,(k b h1 h2 h3).trans hb,hc⟩⟩
def Bj.wide {xR lU:Nat}(h:Bj E s w lo hi A n c xs)(h1:xR<=lo)(h2:hi<=lU):Bj E s w xR lU A n c xs:=⟨h.slc.wide h1 h2,h.blk⟩
theorem zeV {base:Nat}{v:aF}(h:w.ownsRow base E s v n xs)(hs:0<s):∃A c,v=.slice A n c/\Bj E s w base w.heap.size A n c xs:=by
 obtain⟨hl,h|⟨g,cap,cur,rfl,hb,hg,hn,hc,cM,ht⟩⟩:=h
 .obtain⟨rfl,rfl⟩:=h
  exact⟨none,0,rfl,⟨⟨hl,bF _,lP _,λh=>absurd h aC⟩,λh=>absurd h aC⟩⟩
 .refine⟨_,cap,rfl,⟨⟨hl,hn,hc,λh0=>⟨g,0,rfl,hb,iZ hg,iZ hg,λj v hv=>?_⟩⟩,λh0=>⟨g,cur,rfl,hg,by rw[cM];exact Dg _ hn⟩⟩⟩
  rw[qH,aI hg];rw[<-ht] at hv;have hj:j<n*s:=by
   rcases qX j (n*s) with h|h
   .exact h
   .rw[Ue (by rw[sE];omega)] at hv;cases hv
  rw[List.getElem?_take_of_lt hj] at hv;simpa using hv
theorem cG.cells (h:cG w lo hi s A n c xs){k:Nat}(hk:k<n):∃b off,A=some ⟨b,off,none⟩/\lo<=b/\b<hi/\b<w.heap.size/\∀f v,xs[k*s+f]? =some v->w.cell? ⟨b,off+(k*s+f),none⟩=some v:=by
 obtain⟨b,off,e,h1,h2,h3,h4⟩:=h.at_ aC;exact⟨b,off,e,h1,h2,h3,λf v hv=>h4 _ v hv⟩
end
variable {α:Type}
theorem Np (f:α->List aF)(hf:∀a,(f a).length=s):∀(l:List α) (k i:Nat),i<s->(l.flatMap f)[k*s+i]? =(l[k]?).bind λa=>(f a)[i]?
 |[],k,i,_=>by simp
 |a::l,0,i,hi=>by
  rw[zdt,Nat.zero_mul,qH,List.getElem?_append_left (by rw[hf];exact hi)];rfl
 |a::l,k+1,i,hi=>by
  rw[zdt,List.getElem?_append_right (by rw[hf,zmE];omega),hf,show(k+1)*s+i-s=k*s+i by rw[zmE];omega,Np f hf l k i hi];rfl
theorem I2 (f:α->List aF)(hf:∀a,(f a).length=s)(l:List α):(l.flatMap f).length=l.length*s:=by
 induction l with
 |nil=>simp
 |cons a l ih=>rw[zdt,jH,ih,hf,rG,zmE];omega
variable {xs:List aF}{v:aF}{E:Nat}
theorem zoX {W':aE}{base n:Nat}{w0:aE}(h:w0.ownsRow base E s v n xs)(g:W.grownBy W' v.ownBlock)(hb:base<=W.heap.size):cF base W W':=
 ⟨g.os,g.tape,g.output,g.size,λi hi=>g.block i aC (by
  obtain⟨_,h|⟨b,cap,cur,rfl,h1,_⟩⟩:=h
  .rw[h.1];simp[Mr]
  .simp[Mr];omega)⟩
theorem ziK {base n:Nat}(h:w.ownsRow base E s v n xs)(hv:¬v=.slice none 0 0):∃g c,v=.slice (some ⟨g,0,none⟩) n c:=by
 obtain⟨_,h|⟨b,cap,cur,rfl,h1,_⟩⟩:=h
 .exact absurd h.1 hv
 .exact⟨b,cap,rfl⟩
def Oh {base g:Nat}(hb:base<=g)(hg:w.heap[g]? =some (.cells #[] E)):w.ownsRow base E s (.slice (some ⟨g,0,none⟩) 0 0) 0 []:=
 ⟨aN,.inr ⟨g,0,#[],rfl,hb,hg,bF _,lP _,aN,aN⟩⟩
theorem Al {base n:Nat}(h:w.ownsRow base E s v n xs)(hb:∀b,b<w.heap.size->w'.heap[b]? =w.heap[b]?):w'.ownsRow base E s v n xs:=by
 obtain⟨hl,h|⟨g,cap,cur,rfl,h1,hg,h2⟩⟩:=h
 .exact⟨hl,.inl h⟩
 .exact⟨hl,.inr ⟨g,cap,cur,rfl,h1,(hb g (iZ hg)).trans hg,h2⟩⟩
def zpz {base n:Nat}(h:w.ownsRow base E s v n xs)(hb:cF w.heap.size w w'):w'.ownsRow base E s v n xs:=Al h λb h=>hb.block b h
def Li (h:w.heap[N]? =some o):w.drew.heap[N]? =some o:=h
def zd5 {a:aE}{B:Nat}(h:cF B a w):cF B a w.drew:=⟨h.os,h.tape,h.output,h.size,h.block⟩
theorem lZ (w:aE)(o:qD){b:Nat}(hb:b=w.heap.size):(w.alloc o).heap[b]? =some o:=by subst hb;exact gP w o
section
variable {P:bZ}(w:aE)
theorem znM (t ty:aM)(base:Nat)(e:aM)(i:wE)(z:aF)(size bytes:Nat)(ht:P.underlying t=some (.slice e))(hi:P.info? e=some i)(hz:i.zero=some z)
 (xK:i.size=size) (uZ:i.bytes=bytes) (hzs:z.cells.size=size) (cM:0<size)
 (v:aF) (n:Nat) (xs:List aF) (cT:w.ownsRow base e size v n xs) (hv:¬v=.slice none 0 0)
 (ad:bC) (m c:Nat) (news:List aF) (hl:news.length=m*size) (Fy:∀j u,news[j]? =some u->w.cell? (ad.add j)=some u) (h1:∀u∈news,u.oneCell'=true)
 (xB:n+m<=maxLen) (xH:(n+m)*bytes<=140737488355328) (r8:base<=w.heap.size):
 ∃g cap w',(xV #[t,t] ty #[v,.slice (some ad) m c]).run P w=.ok (.slice (some ⟨g,0,none⟩) (n+m) cap) w'/\
  w'.ownsRow base e size (.slice (some ⟨g,0,none⟩) (n+m) cap) (n+m) (xs++news)/\w.grownBy w' v.ownBlock/\cF base w w':=by
 obtain⟨v',w',hr,h2,h3,h4,h5⟩:=zr2 (P:=P) w base t ty e i z size bytes ht hi hz xK uZ hzs cM v n xs cT ad m c news hl Fy h1 xB xH r8;obtain⟨g,cap,rfl⟩:=ziK h2 (λh=>hv (h4.1 h).1);exact⟨g,cap,w',hr,h2,h3,zoX cT h3 r8⟩
variable {o:aZ}{a:Act}
theorem ztH {K:Act->aE->Prop}{Q:Exit->Act->aE->Prop}(s x:cK)(t:aM)
 (ho:o.op=.call {callee:=.builtin .append,args:=#[s,x],argTypes:=#[t,t]})
 (base:Nat) (e:aM) (i:wE) (z:aF) (size bytes:Nat) (ht:P.underlying t=some (.slice e)) (hi:P.info? e=some i) (hz:i.zero=some z)
 (xK:i.size=size) (uZ:i.bytes=bytes) (hzs:z.cells.size=size) (cM:0<size)
 (v:aF) (n:Nat) (xs:List aF) (hs:a.eval s=v) (cT:w.ownsRow base e size v n xs) (hv:¬v=.slice none 0 0)
 (ad:bC) (m c:Nat) (news:List aF) (hx:a.eval x=.slice (some ad) m c) (hl:news.length=m*size) (Fy:∀j u,news[j]? =some u->w.cell? (ad.add j)=some u) (h1:∀u∈news,u.oneCell'=true)
 (xB:n+m<=maxLen) (xH:(n+m)*bytes<=140737488355328) (r8:base<=w.heap.size)
 (h:∀g cap w',w'.ownsRow base e size (.slice (some ⟨g,0,none⟩) (n+m) cap) (n+m) (xs++news)->w.grownBy w' v.ownBlock->cF base w w'->K (a.put o.dst (.slice (some ⟨g,0,none⟩) (n+m) cap)) w'):o.wp P a w K Q:=by
 obtain⟨g,cap,w',hr,h2,h3,h4⟩:=znM (P:=P) w t o.type base e i z size bytes ht hi hz xK uZ hzs cM v n xs cT hv ad m c news hl Fy h1 xB xH r8;unfold C2 execOp;simp only[ho,resolve,invoke,builtin,Fl,Ic,Es,vD,gT,tW,hs,hx,hr];exact h g cap w' h2 h3 h4
variable {ops:Array aZ}
def zm8 {rest:List aZ}{Q:Exit->Act->aE->Prop}(Fe:o.guard=none)(s x:cK)(t:aM)
 (ho:o.op=.call {callee:=.builtin .append,args:=#[s,x],argTypes:=#[t,t]})
 (base:Nat) (e:aM) (i:wE) (z:aF) (size bytes:Nat) (ht:P.underlying t=some (.slice e)) (hi:P.info? e=some i) (hz:i.zero=some z)
 (xK:i.size=size) (uZ:i.bytes=bytes) (hzs:z.cells.size=size) (cM:0<size)
 (v:aF) (n:Nat) (xs:List aF) (hs:a.eval s=v) (cT:w.ownsRow base e size v n xs) (hv:¬v=.slice none 0 0)
 (ad:bC) (m c:Nat) (news:List aF) (hx:a.eval x=.slice (some ad) m c) (hl:news.length=m*size) (Fy:∀j u,news[j]? =some u->w.cell? (ad.add j)=some u) (h1:∀u∈news,u.oneCell'=true)
 (xB:n+m<=maxLen) (xH:(n+m)*bytes<=140737488355328) (r8:base<=w.heap.size)
 (h:∀g cap w',w'.ownsRow base e size (.slice (some ⟨g,0,none⟩) (n+m) cap) (n+m) (xs++news)->w.grownBy w' v.ownBlock->cF base w w'->wpList P ops Q rest (a.put o.dst (.slice (some ⟨g,0,none⟩) (n+m) cap)) w'):wpList P ops Q (o::rest) a w:=
 wpList_plain Fe λ_ hK=>ztH w s x t ho base e i z size bytes ht hi hz xK uZ hzs cM v n xs hs cT hv ad m c news hx hl Fy h1 xB xH r8 λg cap w' h2 h3 h4=>hK _ _ (h g cap w' h2 h3 h4)
theorem zqx {K:Act->aE->Prop}{Q:Exit->Act->aE->Prop}{EE:Prop}(Fe:o.guard=none)(s x:cK)(t:aM)
 (ho:o.op=.call {callee:=.builtin .append,args:=#[s,x],argTypes:=#[t,t]})
 (base:Nat) (e:aM) (i:wE) (z:aF) (size bytes:Nat) (ht:P.underlying t=some (.slice e)) (hi:P.info? e=some i) (hz:i.zero=some z)
 (xK:i.size=size) (uZ:i.bytes=bytes) (hzs:z.cells.size=size) (cM:0<size)
 (v:aF) (n:Nat) (xs:List aF) (hs:a.eval s=v) (cT:w.ownsRow base e size v n xs) (hv:¬v=.slice none 0 0)
 (ad:bC) (m c:Nat) (news:List aF) (hx:a.eval x=.slice (some ad) m c) (hl:news.length=m*size) (Fy:∀j u,news[j]? =some u->w.cell? (ad.add j)=some u) (h1:∀u∈news,u.oneCell'=true)
 (xB:n+m<=maxLen) (xH:(n+m)*bytes<=140737488355328) (r8:base<=w.heap.size)
 (h:∀g cap w',w'.ownsRow base e size (.slice (some ⟨g,0,none⟩) (n+m) cap) (n+m) (xs++news)->w.grownBy w' v.ownBlock->cF base w w'->K (a.put o.dst (.slice (some ⟨g,0,none⟩) (n+m) cap)) w'):
 if dE o (dH ops a.tmps)=true then C2 P o a w K Q else EE:=by
 have hw:dE o (dH ops a.tmps)=true:=by simp[dE,Fe]
 rw[if_pos hw];exact ztH w s x t ho base e i z size bytes ht hi hz xK uZ hzs cM v n xs hs cT hv ad m c news hx hl Fy h1 xB xH r8 h
end
theorem ztQ (xs:List Int):∀u∈fF xs,u.oneCell'=true:=by
 intro u hu;obtain⟨x,_,rfl⟩:=List.mem_map.1 hu;rfl
theorem zY {base n c:Nat}(h:w.ownsRow base E s (.slice A n c) n xs)(hs:0<s):cG w base w.heap.size s A n c xs:=by
 obtain⟨A',c',e,o⟩:=zeV h hs;injection e with e1 e2 e3;subst e1 e3;exact o.slc
theorem Mx (a b:Array UInt8):(⟨a⟩:ByteArray)++⟨b⟩=⟨a++b⟩:=by
 apply ByteArray.ext;simp[ByteArray.data_append]
theorem Un (hk:k<=100000000):(Vy k).length<=20:=by
 rw[Lib.decDigits_length];exact Lib.nDigits_le20 k aC
theorem cv1 (w:aE)(x:Nat)(hx:x<=255):(convert 42 9 (.slice (some ⟨w.heap.size,0,none⟩) 1 1)).run aK (w.alloc (.cells #[.int .u8 (x:Int)] 5))=.ok (.string ⟨[zdq x].toArray⟩) (w.alloc (.cells #[.int .u8 (x:Int)] 5)):=
 run_convert_bytes_back (P:=aK) _ 42 9 5 ⟨w.heap.size,0,none⟩ 1 [zdq x] Tryz.underlying42 Tryz.underlying5 Tryz.underlying9 (λj hj=>by
  obtain rfl:j=0:=by simp at hj;omega
  simp[zgt];omega)
end Go.Proofs.YtfcjiloojkjaeaaGreatDoor
namespace Go.Proofs.YtfcjiloojkjaeaaGreatDoor
open Go.Joins Go.ChangeShapes Go.WideShapes Go.RowKit Go.Deep
section
variable {H:Type}{enc:aM×aF->H}{P:bZ}{w:aE}{base:Nat}{held:Bool}
theorem add_plain (b off j:Nat):(bC.mk b off none).add j=⟨b,off+j,none⟩:=by unfold zgt;split<;>simp_all
end
end Go.Proofs.YtfcjiloojkjaeaaGreatDoor
namespace Go.Proofs.YtfcjiloojkjaeaaGreatDoor
open Go.RowKit
variable {w:aE}
theorem zaN (a:bC)(v:aF):w.grownBy (w.setCell a v) (some a.block):=
 ⟨rfl,rfl,rfl,by simp[zcp],λi hi aU=>dU w a v i (λe=>aU (by rw[e]))⟩
variable {a:aE}{row:Option Nat}
def zIz (h:a.grownBy w row)(n:Nat):a.grownBy (w.drewN n) row:=⟨h.os,h.tape,h.output,h.size,h.block⟩
def zkt {b c:aE}(h:a.grownBy b row)(k:b.grownBy c row):a.grownBy c row:=
 ⟨k.os.trans h.os,k.tape.trans h.tape,k.output.trans h.output,eH h.size k.size,λi hi aU=>(k.block i (jO hi h.size) aU).trans (h.block i hi aU)⟩
def zBC (h:cF a.heap.size a w)(row:Option Nat):a.grownBy w row:=⟨h.os,h.tape,h.output,h.size,λi hi _=>h.block i hi⟩
variable {g:Nat}
def zCt {B:Nat}(h:a.grownBy w (some g))(hB:B<=g)(hg:B<=a.heap.size):cF B a w:=
 ⟨h.os,h.tape,h.output,h.size,λi hi=>h.block i (jO hi hg) oX⟩
structure zaF (w:aE)(g:Nat)(A:Option bC)(n:Nat):Prop where
 le:n<=2000
 at_:0<n->∃b off,A=some ⟨b,off,none⟩/\b<g/\∀j,j<n->∃v:Int,w.cell? ⟨b,off+j,none⟩=some (.int .u8 v)/\0<=v/\v<=255
variable {w':aE}{n:Nat}{A:Option bC}
theorem zaF.keep (h:zaF w g A n)(k:∀b,b<g->w'.heap[b]? =w.heap[b]?):zaF w' g A n:=
 ⟨h.le,λhn=>by
  obtain⟨b,off,e,hb,hj⟩:=h.at_ hn;refine⟨b,off,e,hb,λj S4=>?_⟩;obtain⟨v,hv,h0⟩:=hj j S4;exact⟨v,(Cc (k b hb)).trans hv,h0⟩⟩
structure RdX (w:aE)(g:Nat)(A:Option bC)(n c p:Nat):Prop where
 blk:w.heap[g]? =some (.cells #[.slice A n c,.int .i64 (p:Int)] 105)
 bytes:zaF w g A n
 lt:p<1000000000
def Ql (w:aE)(g:Nat)(A:Option bC)(n c p d:Nat)(K:Int->Prop)(e:G3)(w':aE):Prop:=
 ∃r:Int,e=.returned (.int .i64 r)/\K r/\w'.heap[g]? =some (.cells #[.slice A n c,.int .i64 ((p+d:Nat):Int)] 105)/\w.grownBy w' (some g)
theorem zE5 (g p n c:Nat)(A:Option bC)(m:Int)(w:aE)(h:RdX w g A n c p)(hm:m<1\/n=0):
 gH aK 62 #[.pointer (some ⟨g,0,none⟩),.int .i64 m] w (Ql w g A n c p 1 λr=>r=0):=by
 have hc:=aI h.blk;have hf:∀o,w.frozen? ⟨g,o,none⟩=false:=λo=>by simp[Jg,h.blk]
 have hp:=h.lt;have hb:=h.blk;have hn:=h.bytes.le;have HB:=aD hb;clear h hb;by_cases Yv:m<1
 .clear hm
  go_enter zg1,zgX
  go_wp2;go_ret;exact⟨0,rfl,rfl,(oH HB.o _).trans aN,zaN _ _⟩
 .have zbR:n=0:=by rcases hm with h|h;exact absurd h Yv;exact h
  subst zbR;clear hm
  go_enter zg1,zgX
  go_wp2;go_ret;exact⟨0,rfl,rfl,(oH HB.o _).trans aN,zaN _ _⟩
theorem zA2 (g p n c:Nat)(A:Option bC)(m:Int)(w:aE)(h:RdX w g A n c p)(hm:1<=m)(wJ:m<=1000000)(Wv:p<n):
 gH aK 62 #[.pointer (some ⟨g,0,none⟩),.int .i64 m] w (Ql w g A n c p 1 λr=>0<=r/\r<m):=by
 have hc:=aI h.blk;have hf:∀o,w.frozen? ⟨g,o,none⟩=false:=λo=>by simp[Jg,h.blk]
 have hp:=h.lt;have hb:=h.blk;have hn:=h.bytes.le;have HB:=aD hb;obtain⟨b,off,rfl,kF,hj⟩:=h.bytes.at_ aC;obtain⟨v,hv,v0,v1⟩:=hj p Wv;have zbR:((n:Int)==0)=false:=oX;have zfA:(m==0)=false:=oX;clear h hb hj
 go_enter zg1,zgX
 go_wp2;go_ret;exact⟨_,rfl,⟨zlu _ aC,znd _ aC⟩,(oH HB.o _).trans aN,zaN _ _⟩
theorem zzT (x y:Int)(hx:0<=x)(Ah:x<9223372036854775808)(hy:0<=y)(zKr:y<9223372036854775808):0<=bits .xor .i64 x y:=by
 obtain⟨a,rfl⟩:=zsO hx;obtain⟨b,rfl⟩:=zsO hy;have ha:a<9223372036854775808:=aC;have hb:b<9223372036854775808:=aC;have e:∀z:Nat,z<9223372036854775808->(zk2 64 (z:Int)).toNat=z:=λz hz=>by
  rw[BitVec.ofInt_natCast,BitVec.toNat_ofNat];exact Nat.mod_eq_of_lt aC
 have aS:a^^^b<2^63:=Nat.xor_lt_two_pow aC aC;show 0<=C7.i64.wrap ((zk2 64 (a:Int)^^^zk2 64 (b:Int)).toNat:Int);rw[BitVec.toNat_xor,e a ha,e b hb,C7.wrap_i64];omega
theorem zGG (g p n c:Nat)(A:Option bC)(m:Int)(w:aE)(h:RdX w g A n c p)(hm:1<=m)(wJ:m<=1000000)(Wv:¬p<n)(h0:0<n):
 gH aK 62 #[.pointer (some ⟨g,0,none⟩),.int .i64 m] w (Ql w g A n c p 1 λr=>0<=r/\r<m):=by
 have hc:=aI h.blk;have hf:∀o,w.frozen? ⟨g,o,none⟩=false:=λo=>by simp[Jg,h.blk]
 have hp:=h.lt;have hb:=h.blk;have hn:=h.bytes.le;have HB:=aD hb;obtain⟨b,off,rfl,kF,hj⟩:=h.bytes.at_ h0;have zhG:(0:Int)<n:=aC;have i1:(0:Int)<=(p:Int)%n:=zlu _ aC;have i2:(p:Int)%n<n:=znd _ zhG;have i3:(0:Int)<=((p:Int)*7+3)%n:=zlu _ aC;have i4:((p:Int)*7+3)%n<n:=znd _ zhG;have q0:(0:Int)<=(p:Int)/n:=Int.ediv_nonneg aC aC;have q1:(p:Int)/n<=1000000000:=Int.le_trans (Int.ediv_le_self _ aC) aC;obtain⟨v,hv,v0,v1⟩:=hj (p%n) (zpr _ h0);obtain⟨u,hu,u0,u1⟩:=hj ((p*7+3)%n) (zpr _ h0);have zbR:((n:Int)==0)=false:=oX;have zfA:(m==0)=false:=oX;clear h hb hj
 go_enter zg1,zgX
 go_wp2
 go_quiet (fail)
 go_wp2;go_ret;have hx:=zzT (v*131+u*1117+↑p*29+↑p/↑n*53) ((v*131+u*1117+↑p*29+↑p/↑n*53)/64) aC aC aC aC;exact⟨_,rfl,⟨Int.tmod_nonneg _ hx,Int.tmod_lt_of_pos _ aC⟩,(oH HB.o _).trans aN,zIz (zaN _ _) _⟩
variable {c:Nat}{K:Int->Prop}{e:G3}
def Ql.mono {p d:Nat}{K':Int->Prop}(h:Ql w g A n c p d K e w')(hk:∀r,K r->K' r):Ql w g A n c p d K' e w':=
 let⟨r,he,hr,hb,hg⟩:=h;⟨r,he,hk r hr,hb,hg⟩
theorem zIq (g p n c:Nat)(A:Option bC)(m:Int)(w:aE)(h:RdX w g A n c p)(hm:1<=m)(wJ:m<=1000000):
 gH aK 62 #[.pointer (some ⟨g,0,none⟩),.int .i64 m] w (Ql w g A n c p 1 λr=>0<=r/\r<m):=by
 by_cases h0:n=0
 .exact(zE5 g p n c A m w h (.inr h0)).mono λ_ _ hd=>hd.mono λr hr=>by omega
 .by_cases hp:p<n
  .exact zA2 g p n c A m w h hm wJ hp
  .exact zGG g p n c A m w h hm wJ hp aC
def RdX.next {p d:Nat}(h:RdX w g A n c p)(hb:w'.heap[g]? =some (.cells #[.slice A n c,.int .i64 ((p+d:Nat):Int)] 105))(hg:w.grownBy w' (some g))(hp:p+d<1000000000):RdX w' g A n c (p+d):=
 ⟨hb,h.bytes.keep λb hl=>hg.block b (Nat.lt_trans hl (iZ h.blk)) oX,hp⟩
def zuW {b o:Nat}(h:w.grownBy w' (some g))(hb:b<w.heap.size)(aU:b≠g):w'.cell? ⟨b,o,none⟩=w.cell? ⟨b,o,none⟩:=
 Cc (h.block b hb zfH)
def Zt (h:a.grownBy w row)(o:qD):a.grownBy (w.alloc o) row:=
 ⟨h.os,h.tape,h.output,eH h.size aN,λi hi aU=>(qE w o i (jO hi h.size)).trans (h.block i hi aU)⟩
variable {N:Nat}
def zeM {W w1:aE}{o:qD}(hb:W.grownBy w1 (some g))(hN:W.heap[N]? =some o)(aU:N≠g):w1.heap[N]? =some o/\N<w1.heap.size:=
 ⟨(hb.block N (iZ hN) zfH).trans hN,jO (iZ hN) hb.size⟩
def Rd (w:aE)(g:Nat)(A:Option bC)(n c q:Nat):Prop:=∃p,p<=q/\RdX w g A n c p
variable {q:Nat}
def Rd.mono {q':Nat}(h:Rd w g A n c q)(hq:q<=q'):Rd w g A n c q':=let⟨p,hp,hx⟩:=h;⟨p,aC,hx⟩
def Rd.keep (h:Rd w g A n c q)(k:∀b,b<=g->w'.heap[b]? =w.heap[b]?):Rd w' g A n c q:=
 let⟨p,hp,hx⟩:=h;⟨p,hp,(k g (bF _)).trans hx.blk,hx.bytes.keep λb hb=>k b aC,hx.lt⟩
def Rd.gblt (h:Rd w g A n c q):g<w.heap.size:=let⟨_,_,hx⟩:=h;iZ hx.blk
def Rd.alloc (h:Rd w g A n c q)(o:qD):Rd (w.alloc o) g A n c q:=
 h.keep λb hb=>qE w o b (zav hb h.gblt)
def Rd.setCell (h:Rd w g A n c q){a:bC}(ha:g<a.block)(v:aF):Rd (w.setCell a v) g A n c q:=
 h.keep λb hb=>dU w a v b aC
def Rd.below (h:Rd w g A n c q)(hb:cF w.heap.size w w'):Rd w' g A n c q:=
 h.keep λb hl=>hb.block b (zav hl h.gblt)
theorem zxl (h:a.grownBy w row){p:bC}(hp:a.heap.size<=p.block)(v:aF):a.grownBy (w.setCell p v) row:=
 ⟨h.os,h.tape,h.output,by simpa[zcp] using h.size,λi hi aU=>(dU w p v i aC).trans (h.block i hi aU)⟩
variable {cs:Array aF}{T:aM}
theorem rA (h:w.heap[N]? =some (.cells cs T))(o:Nat):w.frozen? ⟨N,o,none⟩=false:=by simp[Jg,h]
def Got (w:aE)(g:Nat)(A:Option bC)(n c q:Nat)(K:Int->Prop)(e:G3)(w':aE):Prop:=
 ∃r:Int,e=.returned (.int .i64 r)/\K r/\Rd w' g A n c q/\w.grownBy w' (some g)
theorem got_of {p:Nat}(hx:RdX w g A n c p)(hp:p<=q)(hq:q+1<1000000000)(h:Ql w g A n c p 1 K e w'):Got w g A n c (q+1) K e w':=by
 obtain⟨r,he,hr,hb,hg⟩:=h;exact⟨r,he,hr,⟨p+1,aC,hx.next hb hg aC⟩,hg⟩
theorem Ef (g q n c:Nat)(A:Option bC)(m:Int)(w:aE)(h:Rd w g A n c q)(hq:q+1<1000000000)(hm:1<=m)(wJ:m<=1000000):
 gH aK 62 #[.pointer (some ⟨g,0,none⟩),.int .i64 m] w (Got w g A n c (q+1) λr=>0<=r/\r<m):=by
 obtain⟨p,hp,hx⟩:=h;exact(zIq g p n c A m w hx hm wJ).mono λ_ _ hd=>got_of hx hp hq hd
theorem Sp (g q n c l lo k kc:Nat)(A:Option bC)(w:aE)(h:Rd w g A n c q)(hq:q+1<1000000000)(hk:0<k)(qO:k<=1000000)(hl:l<w.heap.size)(zbQ:l≠g)
 (hc:∀j,j<k->∃v:Int,w.cell? ⟨l,lo+j,none⟩=some (.int .i64 v)):
 gH aK 88 #[.pointer (some ⟨g,0,none⟩),.slice (some ⟨l,lo,none⟩) k kc] w (Got w g A n c (q+1) λ_=>True):=by
 have H:=aD hc;clear hc
 go_enter Tryz.func88,Tryz.ntmps88
 go_wp2_with fail
 refine(Ef g q n c A _ _ h hq aC aC).mono ?_;rintro e w1 ⟨r,rfl,⟨r0,r1⟩,hr,hg⟩;obtain⟨v,hv⟩:=H.o r.toNat aC;have pA:=(zuW hg hl zbQ).trans hv;clear hv;go_wp2;go_ret;exact⟨v,rfl,trivial,hr,hg⟩
theorem zIh {l:Nat}{fz:Nat×Nat}(h:w.heap[l]? =some (.cells cs T fz))(k:Nat)(hk:∀j,j<k->∃v:Int,cs[j]? =some (.int .i64 v)):
 ∀j,j<k->∃v:Int,w.cell? ⟨l,0+j,none⟩=some (.int .i64 v):=λj hj=>by
 obtain⟨v,hv⟩:=hk j hj;exact⟨v,by rw[qH,aI h,hv]⟩
structure Code (w:aE)(A:Option bC)(n c:Nat):Prop where
 le:n<=c
 cap:c<=maxLen
 at_:0<n->∃b off,A=some ⟨b,off,none⟩/\b<w.heap.size/\∀j,j<n->∃v:Int,w.cell? ⟨b,off+j,none⟩=some (.int .u8 v)/\0<=v/\v<=255
def Opened (w:aE)(e:G3)(w':aE):Prop:=∃g A n c,e=.returned (.pointer (some ⟨g,0,none⟩))/\Rd w' g A n c 0/\cF w.heap.size w w'/\w.heap.size<=g
theorem zrr {m:Nat}(h:Code w A n c)(hm:m<=n)(wJ:m<=2000)(o:qD):zaF (w.alloc o) w.heap.size A m:=
 ⟨wJ,λh0=>by
  obtain⟨b,off,e,hb,hj⟩:=h.at_ aC;refine⟨b,off,e,hb,λj zwm=>?_⟩;obtain⟨v,hv,h1⟩:=hj j aC;exact⟨v,(zx1 w o _ hb).trans hv,h1⟩⟩
theorem Code.alloc (h:Code w A n c)(o:qD):Code (w.alloc o) A n c:=
 ⟨h.le,h.cap,λh0=>by
  obtain⟨b,off,e,hb,hj⟩:=h.at_ h0;refine⟨b,off,e,oX,λj zwm=>?_⟩;obtain⟨v,hv,h1⟩:=hj j zwm;exact⟨v,(zx1 w o _ hb).trans hv,h1⟩⟩
theorem zyR (A:Option bC)(n c:Nat)(w:aE)(h:Code w A n c):gH aK 48 #[.slice A n c] w (Opened w):=by
 have hl:=h.le;have qF:=h.cap;unfold maxLen at qF;by_cases hn:2000<n
 .obtain⟨b,off,rfl,hb,hj⟩:=h.at_ aC
  clear hj
  go_enter zpd,zoT
  go_wp2;go_ret;exact⟨_,_,2000,c,rfl,⟨0,aC,gP _ _,zrr h aC aC _,aC⟩,eT (fW _ _) _,bF _⟩
 .go_enter zpd,zoT
  go_wp2;go_ret;exact⟨_,A,n,c,rfl,⟨0,aC,gP _ _,zrr h aC aC _,aC⟩,eT (fW _ _) _,bF _⟩
end Go.Proofs.YtfcjiloojkjaeaaGreatDoor
namespace Go.Proofs.YtfcjiloojkjaeaaGreatDoor
open Go.Joins Go.ChangeShapes Go.WideShapes Go.RowKit Go.Deep
section
variable {H:Type}{enc:aM×aF->H}{P:bZ}{w:aE}{base:Nat}{held:Bool}
variable {p:List MemPlace}
theorem zA5 {t e:aM}{A:Option bC}{len cap:Nat}{d:DataW H}(ht:P.underlying t=some (.slice e))(he:P.underlying e=some (.int .u8))(hc:P.cellsOf e=1)
 (h:DataW.Trod enc P w base (λ_=>true) held t (.slice A len cap) d p):Code w A len cap:=by
 obtain⟨fuel,hf⟩:=h;rcases open_ints ht he hc hf with⟨gS,_⟩|⟨a,len',Qo,zs,gS,_,hl,hm,hz,_,hcell,tK⟩
 .simp[Ys] at gS
  obtain⟨rfl,rfl,rfl⟩:=gS;exact⟨bF _,lP _,λh0=>absurd h0 aC⟩
 .simp[Ys] at gS
  obtain⟨rfl,rfl,rfl⟩:=gS;simp only[if_true] at hz;refine⟨hl,hm,λh0=>?_⟩;obtain⟨b,off,spot⟩:=a;have h1:=hcell 0 aC;have zAh:spot=none:=by simpa[zgt] using aE.cell?_spot h1
  subst zAh;have hb:b<w.heap.size:=by have:=aE.block_lt_of_cell? w _ h1;rw[add_plain] at this;exact this
  refine⟨b,off,rfl,hb,λj hj=>?_⟩;have h2:=hcell j aC;rw[add_plain] at h2;have h3:=range_u8 tK j;rw[<-List.getD_eq_getElem?_getD] at h3;exact⟨_,h2,h3.1,h3.2⟩
end
end Go.Proofs.YtfcjiloojkjaeaaGreatDoor
namespace Go.Proofs.YtfcjiloojkjaeaaGreatDoor
open Go.ChangeShapes Go.WideShapes Go.ChangeAt Go.RowKit
section
variable {P:bZ}{w:aE}{base:Nat}
theorem zy0 {t e:aM}{A:Option bC}{n c:Nat}{r:Reach}(ht:P.underlying t=some (.slice e))(h:zwA P w r base t (.slice A n c)):∀a,A=some a->a.spot=none/\∃cs T fz,w.heap[a.block]? =some (.cells cs T fz):=by
 intro a e;subst e;simp only[zwA,ht,Cell.okWide,Cell.ok,aE.has] at h;obtain⟨_,_,_,Jv,row,cells,nD,_⟩:=h;refine⟨Jv,?_⟩;unfold zcR at nD;split at nD
 .rename_i cs T fz hb
  exact⟨cs,T,fz,hb⟩
 .cases nD
end
end Go.Proofs.YtfcjiloojkjaeaaGreatDoor
namespace Go.Proofs.YtfcjiloojkjaeaaGreatDoor
open Go.RowKit
structure bR where
 c:Int
 l:Int
 o:Int
 f:Int
 h:Int
 t:Int
 e:ByteArray
 deriving DecidableEq
def bR.cells (d:bR):List Value:=[.int .i64 d.c,.int .i64 d.l,.int .i64 d.o,.int .i64 d.f,.int .i64 d.h,.int .i64 d.t,.string d.e]
def recs (ds:List bR):List Value:=ds.flatMap bR.cells
def zwd (ds:List bR):(recs ds).length=ds.length*7:=I2 bR.cells (s:=7) (λ_=>rfl) ds
variable {ds:List bR}{k:Nat}{d:bR}
theorem zD1 (h:ds[k]? =some d):(recs ds)[k*7+0]? =some (.int .i64 d.c)/\(recs ds)[k*7+1]? =some (.int .i64 d.l)/\(recs ds)[k*7+2]? =some (.int .i64 d.o)/\(recs ds)[k*7+3]? =some (.int .i64 d.f)/\(recs ds)[k*7+4]? =some (.int .i64 d.h)/\(recs ds)[k*7+5]? =some (.int .i64 d.t)/\(recs ds)[k*7+6]? =some (.string d.e):=by
 have e:=λi hi=>Np bR.cells (s:=7) (λ_=>rfl) ds k i hi;unfold recs;rw[e 0 aC,e 1 aC,e 2 aC,e 3 aC,e 4 aC,e 5 aC,e 6 aC,h];exact⟨rfl,rfl,rfl,rfl,rfl,rfl,rfl⟩
variable {w:aE}{lo hi n c:Nat}{A:Option bC}
theorem cG.recLen (h:cG w lo hi 7 A n c (recs ds)):ds.length=n:=by
 have:=h.len;rw[zwd] at this;omega
structure RecAt (w:aE)(b off:Nat)(d:bR):Prop where
 c0:w.cell? ⟨b,off,none⟩=some (.int .i64 d.c)
 c1:w.cell? ⟨b,off+1,none⟩=some (.int .i64 d.l)
 c2:w.cell? ⟨b,off+2,none⟩=some (.int .i64 d.o)
 c3:w.cell? ⟨b,off+3,none⟩=some (.int .i64 d.f)
 c4:w.cell? ⟨b,off+4,none⟩=some (.int .i64 d.h)
 c5:w.cell? ⟨b,off+5,none⟩=some (.int .i64 d.t)
 c6:w.cell? ⟨b,off+6,none⟩=some (.string d.e)
theorem cG.recAt (h:cG w lo hi 7 A n c (recs ds))(hk:k<n):
 ∃b off d,A=some ⟨b,off,none⟩/\lo<=b/\b<hi/\b<w.heap.size/\ds[k]? =some d/\RecAt w b (off+k*7) d:=by
 obtain⟨b,off,e,h1,h2,h3,h4⟩:=h.cells hk;have hl:k<ds.length:=by rw[h.recLen];exact hk
 obtain⟨g0,g1,g2,g3,g4,g5,g6⟩:=zD1 (mV hl);exact⟨b,off,ds[k],e,h1,h2,h3,mV hl,⟨h4 0 _ g0,h4 1 _ g1,h4 2 _ g2,h4 3 _ g3,h4 4 _ g4,h4 5 _ g5,h4 6 _ g6⟩⟩
def recP (c l o f h t:Int)(e:List UInt8):Prop:=
 1<=c/\c<=99/\1<=l/\l<=6/\0<=o/\o<=4/\0<=f/\f<=3600/\
  (
   (e=[111,112,101,110]/\t= -1/\((o=0/\h= -1)\/(o≠0/\f<=h/\h<=3600)))\/
   (e=[100,111,110,101]/\o≠0/\f<=h/\h<=t/\t<=3600)\/
   ((e=[108,101,102,116]\/e=[116,105,114,101,100])/\o=0/\h= -1/\f<=t/\t<=3600))
instance (c l o f h t:Int)(e:List UInt8):Decidable (recP c l o f h t e):=by unfold recP;infer_instance
def recB (c l o f h t:Int)(e:List UInt8):Bool:=decide (recP c l o f h t e)
def overP (o f h t:Int)(e:List UInt8):Prop:=
 (e=[100,111,110,101]/\0<o/\f<=h/\h<=t/\t<=3600/\f<=t)\/
  ((e=[108,101,102,116]\/e=[116,105,114,101,100])/\o=0/\h= -1/\f<=t/\t<=3600)
instance (o f h t:Int)(e:List UInt8):Decidable (overP o f h t e):=by unfold overP;infer_instance
theorem cG.rec7 (h:cG w lo hi 7 A n c (recs ds))(hk:k<n):
 ∃b off d,A=some ⟨b,off,none⟩/\lo<=b/\b<hi/\b<w.heap.size/\ds[k]? =some d/\w.cell? ⟨b,off+k*7,none⟩=some (.int .i64 d.c)/\w.cell? ⟨b,off+k*7+1,none⟩=some (.int .i64 d.l)/\w.cell? ⟨b,off+k*7+2,none⟩=some (.int .i64 d.o)/\w.cell? ⟨b,off+k*7+3,none⟩=some (.int .i64 d.f)/\w.cell? ⟨b,off+k*7+4,none⟩=some (.int .i64 d.h)/\w.cell? ⟨b,off+k*7+5,none⟩=some (.int .i64 d.t)/\w.cell? ⟨b,off+k*7+6,none⟩=some (.string d.e):=by
 obtain⟨b,off,d,e,h1,h2,h3,hd,⟨c0,c1,c2,c3,c4,c5,c6⟩⟩:=h.recAt hk;exact⟨b,off,d,e,h1,h2,h3,hd,c0,c1,c2,c3,c4,c5,c6⟩
def zom:(aK.info? 50).map (λi=>(i.zero,i.size,i.bytes))=some (some (.agg #[.int .i64 0,.int .i64 0,.int .i64 0,.int .i64 0,.int .i64 0,.int .i64 0,.string ⟨#[]⟩]),7,64):=aT
variable {α:Type}
theorem zFX {p:α->Bool}{l:List α}{a:α}(h:∀j,j<k->∀b,l[j]? =some b->p b=true)(hk:l[k]? =some a)(ha:p a=true):∀j,j<k+1->∀b,l[j]? =some b->p b=true:=by
 intro j hj b hb;by_cases e:j=k
 .subst e;rw[hk] at hb;injection hb with hb;subst hb;exact ha
 .exact h j aC b hb
theorem allF_of {p:α->Bool}{l:List α}(h:∀j,j<k->∀b,l[j]? =some b->p b=true)(hk:l.length<=k):l.all p=true:=by
 rw[List.all_eq_true];intro a ha;obtain⟨j,hj,e⟩:=Lw.1 ha;exact h j aC a (by rw[mV hj,e])
theorem zzM {p:α->Bool}{l:List α}{a:α}(hk:l[k]? =some a)(ha:p a=false):l.all p=false:=by
 rw[List.all_eq_false];exact⟨a,List.mem_of_getElem? hk,by simp[ha]⟩
structure bE where
 c:Int
 p:Int
 deriving DecidableEq
def bE.cells (x:bE):List Value:=[.int .i64 x.c,.int .i64 x.p]
def bH (xs:List bE):List Value:=xs.flatMap bE.cells
structure fQ where
 ln:Int
 op:Int
 pt:Int
 deriving DecidableEq
structure dI where
 k:ByteArray
 a:Int
 b:Int
 deriving DecidableEq
def dI.cells (x:dI):List Value:=[.string x.k,.int .i64 x.a,.int .i64 x.b]
def qW (xs:List dI):List Value:=xs.flatMap dI.cells
def eD (d:bR):Bool:=d.e.toList==[111,112,101,110]
def Bf (c:Int)(d:bR):Bool:=d.c==c&&eD d
def hY (rs:List bR)(c:Int):Option Nat:=rs.findIdx? (Bf c)
def Gt:Option Nat->Int
 |some i=>(i:Int)
 |none=>-1
def xJ (op:Int)(d:bR):Bool:=d.o==op&&eD d
def dO (rs:List bR)(op:Int):Int:=match rs.find? (xJ op) with|some d=>d.c|none=>0
def rP (rs:List bR)(l:Int):Bool:=rs.any λd=>d.l==l&&eD d
def yH (rs:List bR)(n:Nat):List Int:=((List.range n).map λi:Nat=>(i:Int)+1).filter λl=>!rP rs l
def oT (o:fQ)(rs:List bR):List Int:=yH rs o.ln.toNat
def uC (xs:List bE)(c:Int):Option Nat:=xs.findIdx? λx=>x.c==c
def dS (xs:List bE)(c:Int):List bE:=xs.filter λx=>x.c !=c
def uA (xs:List bE)(c:bE):List bE:=xs.takeWhile (λx=>decide (c.p<=x.p))++c::xs.dropWhile (λx=>decide (c.p<=x.p))
structure bY where
 o:fQ
 clk:Int
 recs:List bR
 wait:List bE
 back:List bE
 log:List (List UInt8)
def Dr:ByteArray:=⟨#[100,111,110,101]⟩
def zV:ByteArray:=⟨#[108,101,102,116]⟩
def vS:ByteArray:=⟨#[116,105,114,101,100]⟩
def eJ:ByteArray:=⟨#[111,112,101,110]⟩
def Dj (b:bY)(i:Nat)(e:ByteArray):List bR:=b.recs.modify i λd=>{d with t:=b.clk,e:=e}
def He (rs:List bR)(i:Nat):Int:=match rs[i]? with|some d=>d.c|none=>0
def kI (b:bY)(i:Nat)(e:ByteArray):bY:={b with recs:=Dj b i e,wait:=dS b.wait (He b.recs i)}
def gM (n:Int):List UInt8:=Lh n
def pE (b:bY)(c:bE):bY×List UInt8:=
 if(hY b.recs c.c).isSome||(uC b.back c.c).isSome then(b,[107,110,111,119,110])
 else match oT b.o b.recs with
  |[]=>({b with back:=b.back++[c]},[98,117,115,121])
  |l::_=>({b with recs:=b.recs++[⟨c.c,l,0,b.clk,-1,-1,eJ⟩],wait:=uA b.wait c},[108,105,110,101,32]++gM l)
def nH (b:bY)(op:Int):bY×List UInt8:=
 if 0<dO b.recs op then(b,[116,97,108,107,115])
 else match b.wait with
  |[]=>(b,[110,111,110,101])
  |c::_=>match hY b.recs c.c with
   |none=>(b,[])
   |some i=>({b with recs:=b.recs.modify i λd=>{d with o:=op,h:=b.clk},wait:=dS b.wait c.c},[99,97,108,108,32]++gM c.c)
def l8 (b:bY)(op:Int):bY×List UInt8:=
 if 0<dO b.recs op then(b,[116,97,108,107,115])
 else match b.back with
  |[]=>(b,[110,111,110,101])
  |c::_=>match oT b.o b.recs with
   |[]=>(b,[98,117,115,121])
   |l::_=>({b with back:=dS b.back c.c,recs:=b.recs++[⟨c.c,l,op,b.clk,b.clk,-1,eJ⟩]},[99,97,108,108,32]++gM c.c)
def opAt (rs:List bR)(i:Nat):Int:=match rs[i]? with|some d=>d.o|none=>0
def mH (b:bY)(c:Int):bY×List UInt8:=
 match hY b.recs c with
 |some i=>if 0<opAt b.recs i then(kI b i Dr,[100,111,110,101]) else(kI b i zV,[108,101,102,116])
 |none=>if(uC b.back c).isSome then({b with back:=dS b.back c},[111,102,102]) else(b,[103,111,110,101])
def V8 (rs:List bR)(i:Nat):Int:=match rs[i]? with|some d=>d.f|none=>0
def jV (bt:bY×List UInt8)(x:bE):bY×List UInt8:=
 match hY bt.1.recs x.c with
 |none=>bt
 |some i=>if bt.1.o.pt<=bt.1.clk-V8 bt.1.recs i then
  ({kI bt.1 i vS with back:=bt.1.back++[x]},bt.2++[32]++gM x.c) else bt
def tN (b:bY)(m:Int):bY×List UInt8:=b.wait.foldl jV ({b with clk:=b.clk+m},[97,116,32]++gM (b.clk+m))
def zW:List UInt8:=[114,105,110,103]
def D5:List UInt8:=[104,97,110,103]
def H7:List UInt8:=[97,110,115,119,101,114]
def Bq:List UInt8:=[114,101,116,117,114,110]
def Rg:List UInt8:=[119,97,105,116]
def dK (b:bY)(e:dI):bY×List UInt8:=
 if e.k.toList=zW then pE b ⟨e.a,e.b⟩ else if e.k.toList=H7 then nH b e.a else if e.k.toList=Bq then l8 b e.a else if e.k.toList=D5 then mH b e.a else tN b e.a
def Gm (ops:Int)(e:dI):Prop:=
 (e.k.toList=zW/\1<=e.a/\e.a<=99/\0<=e.b/\e.b<=9)\/(e.k.toList=D5/\1<=e.a/\e.a<=99/\e.b=0)\/((e.k.toList=H7\/e.k.toList=Bq)/\1<=e.a/\e.a<=ops/\e.b=0)\/(e.k.toList=Rg/\1<=e.a/\e.a<=60/\e.b=0)
instance (ops:Int)(e:dI):Decidable (Gm ops e):=by unfold Gm;infer_instance
def q9 (ops:Int)(e:dI):Bool:=decide (Gm ops e)
def sP (o:fQ):Bool:=decide (1<=o.ln/\o.ln<=6/\1<=o.op/\o.op<=4/\1<=o.pt/\o.pt<=60)
def eM (o:fQ)(es:List dI):Bool:=sP o&&decide (es.length<=60)&&es.all (q9 o.op)
def lR (o:fQ):bY:=⟨o,0,[],[],[],[]⟩
def Et (bt:bY×List UInt8):bY:={bt.1 with log:=bt.1.log++[bt.2]}
def Ja (o:fQ)(es:List dI):bY:=es.foldl (λb e=>Et (dK b e)) (lR o)
def oP (o:fQ)(es:List dI):bY:=if eM o es then Ja o es else lR o
variable {ds:List dI}
theorem cG.eventsLen (h:cG w lo hi 3 A n c (qW ds)):ds.length=n:=by
 have h1:=h.len;have h2:=I2 dI.cells (s:=3) (λ_=>rfl) ds;unfold qW at h1;omega
theorem cG.eventsAt (h:cG w lo hi 3 A n c (qW ds))(hk:k<n):
 ∃b off d,A=some ⟨b,off,none⟩/\lo<=b/\b<hi/\b<w.heap.size/\ds[k]? =some d/\w.cell? ⟨b,off+k*3,none⟩=some (.string d.k)/\w.cell? ⟨b,off+k*3+1,none⟩=some (.int .i64 d.a)/\w.cell? ⟨b,off+k*3+2,none⟩=some (.int .i64 d.b):=by
 have hl:=h.eventsLen;have hx:ds[k]? =some ds[k]:=mV aC;have g:∀i,i<3->(qW ds)[k*3+i]? =(ds[k].cells)[i]? :=λi hi=>by
  have:=Np dI.cells (s:=3) (λ_=>rfl) ds k i hi;rw[hx] at this;exact this
 obtain⟨b,off,rfl,h1,h2,h3,h4⟩:=h.cells hk;exact⟨b,off,ds[k],rfl,h1,h2,h3,hx,h4 0 _ (g 0 aH),by rw[zcg];exact h4 1 _ (g 1 aH),by rw[zcg];exact h4 2 _ (g 2 aH)⟩
def txt (l:List UInt8):Value:=.string ⟨l.toArray⟩
def vO (ss:List (List UInt8)):List Value:=ss.map txt
variable {ss:List (List UInt8)}
theorem zz2 {l:List UInt8}(h:ss[k]? =some l):(vO ss)[k]? =some (.string ⟨l.toArray⟩):=by simp[vO,h,txt]
theorem zC8 (ss:List (List UInt8)):(vO ss).length=ss.length:=by simp[vO]
theorem cG.txtLen (h:cG w lo hi 1 A n c (vO ss)):ss.length=n:=by
 have:=h.len;rw[zC8] at this;omega
theorem cG.txtAt (h:cG w lo hi 1 A n c (vO ss))(hk:k<n):
 ∃b off l,A=some ⟨b,off,none⟩/\lo<=b/\b<hi/\b<w.heap.size/\ss[k]? =some l/\w.cell? ⟨b,off+k,none⟩=some (.string ⟨l.toArray⟩):=by
 obtain⟨b,off,e,h1,h2,h3,h4⟩:=h.at_ aC;have hl:k<ss.length:=by rw[h.txtLen];exact hk
 exact⟨b,off,ss[k],e,h1,h2,h3,mV hl,h4 k _ (zz2 (mV hl))⟩
variable {ds:List bE}
theorem cG.callsLen (h:cG w lo hi 2 A n c (bH ds)):ds.length=n:=by
 have h1:=h.len;have h2:=I2 bE.cells (s:=2) (λ_=>rfl) ds;unfold bH at h1;omega
theorem cG.callsAt (h:cG w lo hi 2 A n c (bH ds))(hk:k<n):
 ∃b off d,A=some ⟨b,off,none⟩/\lo<=b/\b<hi/\b<w.heap.size/\ds[k]? =some d/\w.cell? ⟨b,off+k*2,none⟩=some (.int .i64 d.c)/\w.cell? ⟨b,off+k*2+1,none⟩=some (.int .i64 d.p):=by
 have hl:=h.callsLen;have hx:ds[k]? =some ds[k]:=mV aC;have g:∀i,i<2->(bH ds)[k*2+i]? =(ds[k].cells)[i]? :=λi hi=>by
  have:=Np bE.cells (s:=2) (λ_=>rfl) ds k i hi;rw[hx] at this;exact this
 obtain⟨b,off,rfl,h1,h2,h3,h4⟩:=h.cells hk;exact⟨b,off,ds[k],rfl,h1,h2,h3,hx,h4 0 _ (g 0 aH),by rw[zcg];exact h4 1 _ (g 1 aH)⟩
variable {W0:aE}{a1 a2:bC}{v1 v2:aF}
def rL {W:aE}(h:W.cell? a1=some v1/\W.cell? a2=some v2/\cF W0.heap.size W0 W):cF W0.heap.size W0 W:=h.2.2
def ztU {W':aE}(z1:a1.block<W0.heap.size)(z2:a2.block<W0.heap.size)(h1:W0.cell? a1=some v1)(h2:W0.cell? a2=some v2)(hb:cF W0.heap.size W0 W'):W'.cell? a1=some v1/\W'.cell? a2=some v2/\cF W0.heap.size W0 W':=
 ⟨(Cc (hb.block _ z1)).trans h1,(Cc (hb.block _ z2)).trans h2,hb⟩
section
variable {P:bZ}(w:aE)
theorem zy6 (t ty:aM)(base:Nat)(e:aM)(i:wE)(z:aF)(size bytes:Nat)(ht:P.underlying t=some (.slice e))(hi:P.info? e=some i)(hz:i.zero=some z)
 (xK:i.size=size) (uZ:i.bytes=bytes) (hzs:z.cells.size=size) (cM:0<size)
 (g0 n c0:Nat) (xs:List aF) (cT:w.ownsRow base e size (.slice (some ⟨g0,0,none⟩) n c0) n xs)
 (A:Option bC) (m c lo lU:Nat) (news:List aF) (hs:cG w lo lU size A m c news) (h1:∀u∈news,u.oneCell'=true)
 (xB:n+m<=maxLen) (xH:(n+m)*bytes<=140737488355328) (r8:base<=w.heap.size):
 ∃g cap w',(xV #[t,t] ty #[.slice (some ⟨g0,0,none⟩) n c0,.slice A m c]).run P w=.ok (.slice (some ⟨g,0,none⟩) (n+m) cap) w'/\
  w'.ownsRow base e size (.slice (some ⟨g,0,none⟩) (n+m) cap) (n+m) (xs++news)/\w.grownBy w' (Mr (.slice (some ⟨g0,0,none⟩) n c0))/\cF base w w':=by
 cases A with
 |none=>
  have hm:m=0:=by
   rcases Nat.eq_zero_or_pos m with h|h
   .exact h
   .obtain⟨b,off,e,_⟩:=hs.at_ h;cases e
  subst hm;have pD:news=[]:=by have:=hs.len;simp at this;exact this
  subst pD;have hle:n<=c0:=by
   obtain⟨_,h|⟨b,cap,cur,e,h1,h2,h3,_⟩⟩:=cT
   .cases h.1
   .injection e with _ _ e;omega
  have hr:=run_append_room_src (P:=P) w t t ty e i ht hi g0 0 n c0 (.slice none 0 c) 0 [] (Src.ofNil (P:=P) (e':=e) w ht c) aC (by intro j hj;simp at hj) (by intro j hj;simp at hj);refine⟨g0,c0,w,by simpa[aE.setCells] using hr,by simpa using cT,⟨rfl,rfl,rfl,bF _,λ_ _ _=>rfl⟩,fW _ _⟩
 |some ad=>
  by_cases hm:0<m
  .obtain⟨b,off,e',_,_,_,h4⟩:=hs.at_ hm
   injection e' with e';subst e';exact znM w t ty base e i z size bytes ht hi hz xK uZ hzs cM _ n xs cT aN _ m c news hs.len (λj u hu=>by rw[bC.add_lit];exact h4 j u hu) h1 xB xH r8
  .obtain rfl:m=0:=aC
   have pD:news=[]:=by have:=hs.len;simp at this;exact this
   subst pD;exact znM w t ty base e i z size bytes ht hi hz xK uZ hzs cM _ n xs cT aN _ 0 c [] aN (λj u hu=>by simp at hu) (λu hu=>by cases hu) xB xH r8
variable {o:aZ}{a:Act}
theorem wp_apps {K:Act->aE->Prop}{Q:Exit->Act->aE->Prop}(s x:cK)(t:aM)
 (ho:o.op=.call {callee:=.builtin .append,args:=#[s,x],argTypes:=#[t,t]})
 (base:Nat) (e:aM) (i:wE) (z:aF) (size bytes:Nat) (ht:P.underlying t=some (.slice e)) (hi:P.info? e=some i) (hz:i.zero=some z)
 (xK:i.size=size) (uZ:i.bytes=bytes) (hzs:z.cells.size=size) (cM:0<size)
 (g0 n c0:Nat) (xs:List aF) (zkE:a.eval s=.slice (some ⟨g0,0,none⟩) n c0) (cT:w.ownsRow base e size (.slice (some ⟨g0,0,none⟩) n c0) n xs)
 (A:Option bC) (m c lo lU:Nat) (news:List aF) (hx:a.eval x=.slice A m c) (hs:cG w lo lU size A m c news) (h1:∀u∈news,u.oneCell'=true)
 (xB:n+m<=maxLen) (xH:(n+m)*bytes<=140737488355328) (r8:base<=w.heap.size)
 (h:∀g cap w',w'.ownsRow base e size (.slice (some ⟨g,0,none⟩) (n+m) cap) (n+m) (xs++news)->w.grownBy w' (Mr (.slice (some ⟨g0,0,none⟩) n c0))->cF base w w'->K (a.put o.dst (.slice (some ⟨g,0,none⟩) (n+m) cap)) w'):o.wp P a w K Q:=by
 obtain⟨g,cap,w',hr,h2,h3,h4⟩:=zy6 (P:=P) w t o.type base e i z size bytes ht hi hz xK uZ hzs cM g0 n c0 xs cT A m c lo lU news hs h1 xB xH r8;unfold C2 execOp;simp only[ho,resolve,invoke,builtin,Fl,Ic,Es,vD,gT,tW,zkE,hx,hr];exact h g cap w' h2 h3 h4
theorem zed {ops:Array aZ}{K:Act->aE->Prop}{Q:Exit->Act->aE->Prop}{EE:Prop}(hw:dE o (dH ops a.tmps)=true)(s x:cK)(t:aM)
 (ho:o.op=.call {callee:=.builtin .append,args:=#[s,x],argTypes:=#[t,t]})
 (base:Nat) (e:aM) (i:wE) (z:aF) (size bytes:Nat) (ht:P.underlying t=some (.slice e)) (hi:P.info? e=some i) (hz:i.zero=some z)
 (xK:i.size=size) (uZ:i.bytes=bytes) (hzs:z.cells.size=size) (cM:0<size)
 (g0 n c0:Nat) (xs:List aF) (zkE:a.eval s=.slice (some ⟨g0,0,none⟩) n c0) (cT:w.ownsRow base e size (.slice (some ⟨g0,0,none⟩) n c0) n xs)
 (A:Option bC) (m c lo lU:Nat) (news:List aF) (hx:a.eval x=.slice A m c) (hs:cG w lo lU size A m c news) (h1:∀u∈news,u.oneCell'=true)
 (xB:n+m<=maxLen) (xH:(n+m)*bytes<=140737488355328) (r8:base<=w.heap.size)
 (h:∀g cap w',w'.ownsRow base e size (.slice (some ⟨g,0,none⟩) (n+m) cap) (n+m) (xs++news)->w.grownBy w' (Mr (.slice (some ⟨g0,0,none⟩) n c0))->cF base w w'->K (a.put o.dst (.slice (some ⟨g,0,none⟩) (n+m) cap)) w'):
 if dE o (dH ops a.tmps)=true then C2 P o a w K Q else EE:=by
 rw[if_pos hw];exact wp_apps w s x t ho base e i z size bytes ht hi hz xK uZ hzs cM g0 n c0 xs zkE cT A m c lo lU news hx hs h1 xB xH r8 h
end
theorem zaM {p:α->Bool}:∀{l:List α} {k:Nat} {a:α},l[k]? =some a->p a=true->(∀j,j<k->∀b,l[j]? =some b->p b=false)->l.findIdx? p=some k
 |[],k,a,h,_,_=>by simp at h
 |x::xs,0,a,h,ha,_=>by grind
 |x::xs,k+1,a,h,ha,hn=>by
  have hx:=hn 0 aC x rfl;rw[List.findIdx?_cons,hx,zaM (l:=xs) (k:=k) zeO ha (λj hj b hb=>hn (j+1) aC b zfa)];simp
theorem zmY {p:α->Bool}{l:List α}(hn:∀j,j<k->∀b,l[j]? =some b->p b=false)(hk:l.length<=k):l.findIdx? p=none:=by
 rw[List.findIdx?_eq_none_iff];intro x hx;obtain⟨j,hj,e⟩:=Lw.1 hx;exact hn j aC x tD
theorem zxS {p:α->Bool}:∀{l:List α} {k:Nat} {a:α},l[k]? =some a->p a=true->(∀j,j<k->∀b,l[j]? =some b->p b=false)->l.find? p=some a
 |[],k,a,h,_,_=>by simp at h
 |x::xs,0,a,h,ha,_=>by simp_all
 |x::xs,k+1,a,h,ha,hn=>by
  have hx:=hn 0 aC x rfl;rw[List.find?_cons,hx];exact zxS (l:=xs) (k:=k) zeO ha (λj hj b hb=>hn (j+1) aC b zfa)
theorem find_no {p:α->Bool}{l:List α}(hn:∀j,j<k->∀b,l[j]? =some b->p b=false)(hk:l.length<=k):l.find? p=none:=by
 rw[List.find?_eq_none];intro x hx;obtain⟨j,hj,e⟩:=Lw.1 hx;rw[hn j aC x (by rw[mV hj,e])];simp
theorem Ri {p:α->Bool}{l:List α}{a:α}(h:∀j,j<k->∀b,l[j]? =some b->p b=false)(hk:l[k]? =some a)(ha:p a=false):∀j,j<k+1->∀b,l[j]? =some b->p b=false:=by grind
theorem Kv (lo hi n c:Nat)(A:Option bC)(rs:List bR)(q:Int)(w:aE)(h:cG w lo hi 7 A n c (recs rs))(hn:n<=1048576):
 gH aK 91 #[.slice A n c,.int .i64 q] w λe w'=>e=.returned (.int .i64 (Gt (hY rs q)))/\w'=w:=by
 have hl:=aD h.recLen
 go_enter Tryz.func91,Tryz.ntmps91
 go_wp2
 go_loop [5] (λi=>∃k:Nat,k<=n/\i=.int .i64 k/\∀j,j<k->∀b,rs[j]? =some b->Bf q b=false) (λi=>n-(intOf i).toNat)
 case atStart=>grind
 case round=>
  obtain⟨k,hk,rfl,gS⟩:=hrel;have HC:=aD gS;clear gS;by_cases aS:k<n
  .obtain⟨b,off,d,hA,_,_,h3,eK,gI,pA,Be,Hv,Hc,nV,zeQ⟩:=h.rec7 aS
   subst hA;have HX:=aD eK;clear eK h pA Be Hv Hc nV h3;have i0:(0:Int)<=(k:Int):=aC;have i1:(k:Int)<(n:Int):=aC;cases hq:(d.c==q)
   .have HP:=aD (show Bf q d=false by unfold Bf;rw[hq];rfl)
    go_wp2
    go_round
    case rel=>exact⟨k+1,aC,oL,Ri HC.o HX.o HP.o⟩
    case measure=>simp[intOf];omega
   .cases hd:(d.e.toList==[111,112,101,110])
    .have HP:=aD (show Bf q d=false by unfold Bf eD;rw[hq,hd];rfl)
     go_wp2
     go_round
     case rel=>exact⟨k+1,aC,oL,Ri HC.o HX.o HP.o⟩
     case measure=>simp[intOf];omega
    .have HP:=aD (show Bf q d=true by unfold Bf eD;rw[hq,hd];rfl)
     go_wp2;go_ret;exact⟨Hw (by unfold hY;rw[zaM HX.o HP.o HC.o];rfl),rfl⟩
  .have e:k=n:=aC
   subst e;clear h;go_wp2;go_ret;exact⟨Hw (by unfold hY;rw[zmY HC.o zab];rfl),rfl⟩
theorem U2 (lo hi n c:Nat)(A:Option bC)(rs:List bR)(q:Int)(w:aE)(h:cG w lo hi 7 A n c (recs rs))(hn:n<=1048576):
 gH aK 45 #[.slice A n c,.int .i64 q] w λe w'=>e=.returned (.int .i64 (dO rs q))/\w'=w:=by
 have hl:=aD h.recLen
 go_enter Tryz.func45,Tryz.ntmps45
 go_wp2
 go_loop [5] (λi=>∃k:Nat,k<=n/\i=.int .i64 k/\∀j,j<k->∀b,rs[j]? =some b->xJ q b=false) (λi=>n-(intOf i).toNat)
 case atStart=>grind
 case round=>
  obtain⟨k,hk,rfl,gS⟩:=hrel;have HC:=aD gS;clear gS;by_cases aS:k<n
  .obtain⟨b,off,d,hA,_,_,h3,eK,gI,pA,Be,Hv,Hc,nV,zeQ⟩:=h.rec7 aS
   subst hA;have HX:=aD eK;clear eK h pA Hv Hc nV h3;have i0:(0:Int)<=(k:Int):=aC;have i1:(k:Int)<(n:Int):=aC;cases hq:(d.o==q)
   .have HP:=aD (show xJ q d=false by unfold xJ;rw[hq];rfl)
    go_wp2
    go_round
    case rel=>exact⟨k+1,aC,oL,Ri HC.o HX.o HP.o⟩
    case measure=>simp[intOf];omega
   .cases hd:(d.e.toList==[111,112,101,110])
    .have HP:=aD (show xJ q d=false by unfold xJ eD;rw[hq,hd];rfl)
     go_wp2
     go_round
     case rel=>exact⟨k+1,aC,oL,Ri HC.o HX.o HP.o⟩
     case measure=>simp[intOf];omega
    .have HP:=aD (show xJ q d=true by unfold xJ eD;rw[hq,hd];rfl)
     go_wp2;go_ret;exact⟨Hw (by unfold dO;rw[zxS HX.o HP.o HC.o]),rfl⟩
  .have e:k=n:=aC
   subst e;clear h;go_wp2;go_ret;exact⟨Hw (by unfold dO;rw[find_no HC.o zab]),rfl⟩
theorem zdm (lo hi n c:Nat)(A:Option bC)(xs:List bE)(q:Int)(w:aE)(h:cG w lo hi 2 A n c (bH xs))(hn:n<=1048576):
 gH aK 92 #[.slice A n c,.int .i64 q] w λe w'=>e=.returned (.int .i64 (Gt (uC xs q)))/\w'=w:=by
 have hl:=aD h.callsLen
 go_enter Tryz.func92,Tryz.ntmps92
 go_wp2
 go_loop [5] (λi=>∃k:Nat,k<=n/\i=.int .i64 k/\∀j,j<k->∀b,xs[j]? =some b->(b.c==q)=false) (λi=>n-(intOf i).toNat)
 case atStart=>grind
 case round=>
  obtain⟨k,hk,rfl,gS⟩:=hrel;have HC:=aD gS;clear gS;by_cases aS:k<n
  .obtain⟨b,off,d,hA,_,_,h3,eK,gI,pA⟩:=h.callsAt aS
   subst hA;have HX:=aD eK;clear eK h pA h3;have i0:(0:Int)<=(k:Int):=aC;have i1:(k:Int)<(n:Int):=aC;cases hq:(d.c==q)
   .have HP:=aD hq
    go_wp2
    go_round
    case rel=>exact⟨k+1,aC,oL,Ri HC.o HX.o HP.o⟩
    case measure=>simp[intOf];omega
   .have HP:=aD hq
    go_wp2;go_ret;exact⟨Hw (by unfold uC;rw[zaM HX.o HP.o HC.o];rfl),rfl⟩
  .have e:k=n:=aC
   subst e;clear h;go_wp2;go_ret;exact⟨Hw zve,rfl⟩
def zl6 (E s:Nat)(w:aE)(m:Nat)(xs:List aF)(v:aF)(w':aE):Prop:=∃g cp,v=.slice (some ⟨g,0,none⟩) m cp/\w'.ownsRow w.heap.size E s (.slice (some ⟨g,0,none⟩) m cp) m xs/\cF w.heap.size w w'
theorem zoE (bs:List bE)(b:bE):bH (bs++[b])=bH bs++b.cells:=by simp[bH]
def zez:(aK.info? 100).map (λi=>(i.zero,i.size,i.bytes))=some (some (.agg #[.int .i64 0,.int .i64 0]),2,16):=aT
theorem zFh {xs:List bE}{d:bE}(q:Int)(h:xs[k]? =some d):dS (xs.take (k+1)) q=dS (xs.take k) q++(if d.c !=q then[d] else[]):=by
 unfold dS;rw[Ia,h,Pl];congr 1;simp[zuR]
theorem zhe (lo hi n c:Nat)(A:Option bC)(xs:List bE)(q:Int)(w:aE)(h:cG w lo hi 2 A n c (bH xs))(hn:n<=100000):
 gH aK 95 #[.slice A n c,.int .i64 q] w λe w'=>∃v,e=.returned v/\zl6 100 2 w (dS xs q).length (bH (dS xs q)) v w':=by
 have hl:=aD h.callsLen;obtain⟨i0,eR,fG,dB,gQ⟩:=Ch zez;have HI:=aD (And.intro eR (And.intro fG (And.intro dB gQ)));clear eR fG dB gQ
 go_enter Tryz.func95,Tryz.ntmps95
 go_wp2
 go_loopw [5,6] (λv i wr=>∃(k g L cl:Nat),k<=n/\i=.int .i64 k/\L=(dS (xs.take k) q).length/\v=.slice (some ⟨g,0,none⟩) L cl/\cF w.heap.size w wr/\wr.ownsRow w.heap.size 100 2 (.slice (some ⟨g,0,none⟩) L cl) L (bH (dS (xs.take k) q))) (λ_ i _=>n-(intOf i).toNat)
 case atStart=>exact⟨0,w.heap.size,0,0,lP _,rfl,rfl,rfl,eT (fW _ _) _,Oh (bF _) (gP _ _)⟩
 case round=>
  obtain⟨k,g,L,cl,hk,rfl,hL,rfl,B,cT⟩:=hrel;have HL:=aD hL;have Le:=aD cT;have HB:=aD B;have zyf:=B.size;have hlen:L<=k:=by rw[hL];unfold dS;exact eH (za1 _ _) oX
  clear hL cT;by_cases aS:k<n
  .obtain⟨b,off,d,hA,_,_,h3,eK,gI,pA⟩:=(h.below B).callsAt aS
   subst hA;have HF:=aD (zFh q eK);clear eK h h3 B;have zo0:(0:Int)<=(k:Int):=aC;have i1:(k:Int)<(n:Int):=aC;cases hq:(d.c !=q)
   .rw[hq] at HF
    have HN:=aD (show dS (xs.take (k+1)) q=dS (xs.take k) q by rw[HF.o];simp);go_wp2;go_roundw
    case rel=>exact⟨k+1,g,L,cl,aC,oL,by rw[HN.o];exact HL.o,rfl,HB.o,by rw[HN.o];exact Le.o⟩
    case measure=>simp[intOf];omega
   .rw[hq] at HF
    have HN:=aD (show dS (xs.take (k+1)) q=dS (xs.take k) q++[d] by rw[HF.o];simp);obtain⟨eR,fG,dB,gQ⟩:=HI.o;have HH:=aD eR;clear eR
    go_wp2_with (at_builtin;refine zm8 _ rfl (.tmp 21) (.tmp 26) 57 rfl w.heap.size 100 i0 (.agg #[.int .i64 0,.int .i64 0]) 2 16 Lf HH.o fG dB gQ rfl aH (.slice (some ⟨g,0,none⟩) L cl) L (bH (dS (xs.take k) q)) rfl (Al Le.o ?c1) aN ⟨_,0,none⟩ 1 1 (bE.cells d) rfl rfl ?c2 Sk ?c5 ?c6 ?c7 ?_;(case c1=>exact λb hb=>qE _ _ b hb);(case c2=>exact Dn (cs:=(bE.cells d).toArray) (lZ _ _ aN));(case c5=>unfold maxLen;omega);(case c6=>omega);(case c7=>(simp;omega));intro g1 c1 w1 rD qR B1;have An:=aD rD;have jG:=aD B1;clear rD qR B1)
    go_roundw
    case rel=>
     refine⟨k+1,g1,L+1,c1,aC,oL,by rw[HN.o,HL.o];simp,rfl,(eT HB.o _).trans jG.o,?_⟩;rw[HN.o,zoE];exact An.o
    case measure=>simp[intOf];omega
  .have e:k=n:=aC
   subst e;have HT:=aD (show xs.take k=xs by rw[zP zab]);clear h B;go_wp2;go_ret;refine⟨_,rfl,g,cl,by rw[HL.o,HT.o];rfl,?_,HB.o⟩;have:=Le.o;rw[HL.o,HT.o] at this;exact this
section
variable {P:bZ}(w:aE)
theorem zeE (t ty:aM)(base:Nat)(e:aM)(i:wE)(z:aF)(size bytes:Nat)(ht:P.underlying t=some (.slice e))(hi:P.info? e=some i)(hz:i.zero=some z)
 (xK:i.size=size) (uZ:i.bytes=bytes) (hzs:z.cells.size=size) (cM:0<size)
 (gv cv n:Nat) (xs:List aF) (cT:w.ownsRow base e size (.slice (some ⟨gv,0,none⟩) n cv) n xs)
 (ad:bC) (m c:Nat) (news:List aF) (hl:news.length=m*size) (Fy:∀j u,news[j]? =some u->w.cell? (ad.add j)=some u) (h1:∀u∈news,u.oneCell'=true)
 (xB:n+m<=maxLen) (xH:(n+m)*bytes<=140737488355328) (r8:base<=w.heap.size):
 ∃g cap w',(xV #[t,t] ty #[.slice (some ⟨gv,0,none⟩) n cv,.slice (some ad) m c]).run P w=.ok (.slice (some ⟨g,0,none⟩) (n+m) cap) w'/\
  w'.ownsRow base e size (.slice (some ⟨g,0,none⟩) (n+m) cap) (n+m) (xs++news)/\w.grownBy w' (some gv)/\cF base w w'/\(g=gv\/g=w.heap.size):=by
 obtain⟨v',w',hr,h2,h3,h4,h5⟩:=zr2 (P:=P) w base t ty e i z size bytes ht hi hz xK uZ hzs cM _ n xs cT ad m c news hl Fy h1 xB xH r8;obtain⟨g,cap,rfl⟩:=ziK h2 (λh=>by have:=(h4.1 h).1;cases this);refine⟨g,cap,w',hr,h2,h3,zoX cT h3 r8,?_⟩;rcases h5 with h5|h5
 .exact .inl (by simpa[Mr] using h5)
 .exact .inr (by simpa[Mr] using h5)
variable {o:aZ}{a:Act}
theorem wp_app2 {K:Act->aE->Prop}{Q:Exit->Act->aE->Prop}(s x:cK)(t:aM)
 (ho:o.op=.call {callee:=.builtin .append,args:=#[s,x],argTypes:=#[t,t]})
 (base:Nat) (e:aM) (i:wE) (z:aF) (size bytes:Nat) (ht:P.underlying t=some (.slice e)) (hi:P.info? e=some i) (hz:i.zero=some z)
 (xK:i.size=size) (uZ:i.bytes=bytes) (hzs:z.cells.size=size) (cM:0<size)
 (gv cv n:Nat) (xs:List aF) (hs:a.eval s=.slice (some ⟨gv,0,none⟩) n cv) (cT:w.ownsRow base e size (.slice (some ⟨gv,0,none⟩) n cv) n xs)
 (ad:bC) (m c:Nat) (news:List aF) (hx:a.eval x=.slice (some ad) m c) (hl:news.length=m*size) (Fy:∀j u,news[j]? =some u->w.cell? (ad.add j)=some u) (h1:∀u∈news,u.oneCell'=true)
 (xB:n+m<=maxLen) (xH:(n+m)*bytes<=140737488355328) (r8:base<=w.heap.size)
 (h:∀g cap w',w'.ownsRow base e size (.slice (some ⟨g,0,none⟩) (n+m) cap) (n+m) (xs++news)->w.grownBy w' (some gv)->cF base w w'->(g=gv\/g=w.heap.size)->K (a.put o.dst (.slice (some ⟨g,0,none⟩) (n+m) cap)) w'):o.wp P a w K Q:=by
 obtain⟨g,cap,w',hr,h2,h3,h4,h5⟩:=zeE (P:=P) w t o.type base e i z size bytes ht hi hz xK uZ hzs cM gv cv n xs cT ad m c news hl Fy h1 xB xH r8;unfold C2 execOp;simp only[ho,resolve,invoke,builtin,Fl,Ic,Es,vD,gT,tW,hs,hx,hr];exact h g cap w' h2 h3 h4 h5
def ziT {ops:Array aZ}{rest:List aZ}{Q:Exit->Act->aE->Prop}(Fe:o.guard=none)(s x:cK)(t:aM)
 (ho:o.op=.call {callee:=.builtin .append,args:=#[s,x],argTypes:=#[t,t]})
 (base:Nat) (e:aM) (i:wE) (z:aF) (size bytes:Nat) (ht:P.underlying t=some (.slice e)) (hi:P.info? e=some i) (hz:i.zero=some z)
 (xK:i.size=size) (uZ:i.bytes=bytes) (hzs:z.cells.size=size) (cM:0<size)
 (gv cv n:Nat) (xs:List aF) (hs:a.eval s=.slice (some ⟨gv,0,none⟩) n cv) (cT:w.ownsRow base e size (.slice (some ⟨gv,0,none⟩) n cv) n xs)
 (ad:bC) (m c:Nat) (news:List aF) (hx:a.eval x=.slice (some ad) m c) (hl:news.length=m*size) (Fy:∀j u,news[j]? =some u->w.cell? (ad.add j)=some u) (h1:∀u∈news,u.oneCell'=true)
 (xB:n+m<=maxLen) (xH:(n+m)*bytes<=140737488355328) (r8:base<=w.heap.size)
 (h:∀g cap w',w'.ownsRow base e size (.slice (some ⟨g,0,none⟩) (n+m) cap) (n+m) (xs++news)->w.grownBy w' (some gv)->cF base w w'->(g=gv\/g=w.heap.size)->wpList P ops Q rest (a.put o.dst (.slice (some ⟨g,0,none⟩) (n+m) cap)) w'):wpList P ops Q (o::rest) a w:=
 wpList_plain Fe λ_ hK=>wp_app2 w s x t ho base e i z size bytes ht hi hz xK uZ hzs cM gv cv n xs hs cT ad m c news hx hl Fy h1 xB xH r8 λg cap w' h2 h3 h4 h5=>hK _ _ (h g cap w' h2 h3 h4 h5)
end
structure fL where
 gR:Nat
 cR:Nat
 gW:Nat
 cW:Nat
 gB:Nat
 cB:Nat
 gL:Nat
 cL:Nat
abbrev fL.sR (v:fL)(r:bY):Value:=.slice (some ⟨v.gR,0,none⟩) r.recs.length v.cR
abbrev fL.sW (v:fL)(r:bY):Value:=.slice (some ⟨v.gW,0,none⟩) r.wait.length v.cW
abbrev fL.sB (v:fL)(r:bY):Value:=.slice (some ⟨v.gB,0,none⟩) r.back.length v.cB
abbrev fL.sL (v:fL)(r:bY):Value:=.slice (some ⟨v.gL,0,none⟩) r.log.length v.cL
abbrev fS (v:fL)(r:bY):Array Value:=#[.int .i64 r.o.ln,.int .i64 r.o.op,.int .i64 r.o.pt,.int .i64 r.clk,v.sR r,v.sW r,v.sB r,v.sL r]
abbrev G8 (v:fL)(r:bY):Obj:=.cells (fS v r) 59
structure dZ (w:aE)(lo:Nat)(v:fL)(r:bY):Prop where
 rc:w.ownsRow lo 50 7 (v.sR r) r.recs.length (recs r.recs)
 wt:w.ownsRow lo 100 2 (v.sW r) r.wait.length (bH r.wait)
 bk:w.ownsRow lo 100 2 (v.sB r) r.back.length (bH r.back)
 lg:w.ownsRow lo 9 1 (v.sL r) r.log.length (vO r.log)
 ap:v.gR≠v.gW/\v.gR≠v.gB/\v.gR≠v.gL/\v.gW≠v.gB/\v.gW≠v.gL/\v.gB≠v.gL
structure oV (v:fL)(w w':aE):Prop where
 os:w'.os=w.os
 tape:w'.tape=w.tape
 output:w'.output=w.output
 size:w.heap.size<=w'.heap.size
 block:∀b,b<w.heap.size->b≠v.gR->b≠v.gB->w'.heap[b]? =w.heap[b]?
structure xM (n:Nat)(v v':fL):Prop where
 r:v'.gR=v.gR\/n<=v'.gR
 w:v'.gW=v.gW\/n<=v'.gW
 b:v'.gB=v.gB\/n<=v'.gB
 l:v'.gL=v.gL
section
variable {w w' F9:aE}{lo:Nat}{v v' zbg:fL}{r:bY}
def oV.of_below (v:fL)(h:cF w.heap.size w w'):oV v w w':=⟨h.os,h.tape,h.output,h.size,λb hb _ _=>h.block b hb⟩
theorem oV.trans {n:Nat}(h:oV v w w')(k:oV v' w' F9)(m:xM n v v')(hn:w.heap.size<=n):oV v w F9:=
 ⟨k.os.trans h.os,k.tape.trans h.tape,k.output.trans h.output,eH h.size k.size,λb hb h1 h2=>(k.block b (jO hb h.size) (λe=>by rcases m.r with x|x<;>omega) (λe=>by rcases m.b with x|x<;>omega)).trans (h.block b hb h1 h2)⟩
def oV.same (h:oV v w w')(k:oV v w' F9):oV v w F9:=
 ⟨k.os.trans h.os,k.tape.trans h.tape,k.output.trans h.output,eH h.size k.size,λb hb h1 h2=>(k.block b (jO hb h.size) h1 h2).trans (h.block b hb h1 h2)⟩
def xM.refl (n:Nat)(v:fL):xM n v v:=⟨.inl rfl,.inl rfl,.inl rfl,rfl⟩
theorem xM.trans {n m:Nat}(h:xM n v v')(k:xM m v' zbg)(hm:n<=m):xM n v zbg:=
 ⟨
  k.r.elim (λe=>h.r.imp (λx=>e.trans x) (λx=>by omega)) (λx=>.inr aC),k.w.elim (λe=>h.w.imp (λx=>e.trans x) (λx=>by omega)) (λx=>.inr aC),
  k.b.elim (λe=>h.b.imp (λx=>e.trans x) (λx=>by omega)) (λx=>.inr aC),k.l.trans h.l⟩
def dZ.keep (h:dZ w lo v r)(k:∀b,b<w.heap.size->w'.heap[b]? =w.heap[b]?):dZ w' lo v r:=⟨Al h.rc k,Al h.wt k,Al h.bk k,Al h.lg k,h.ap⟩
def dZ.below (h:dZ w lo v r)(k:cF w.heap.size w w'):dZ w' lo v r:=h.keep λb hb=>k.block b hb
def dZ.alloc (h:dZ w lo v r)(o:qD):dZ (w.alloc o) lo v r:=h.keep λb hb=>qE w o b hb
def dZ.lts (h:dZ w lo v r):lo<=v.gR/\v.gR<w.heap.size/\lo<=v.gW/\v.gW<w.heap.size/\lo<=v.gB/\v.gB<w.heap.size/\lo<=v.gL/\v.gL<w.heap.size:=
 ⟨(h.rc.lt _ rfl).1,(h.rc.lt _ rfl).2,(h.wt.lt _ rfl).1,(h.wt.lt _ rfl).2,(h.bk.lt _ rfl).1,(h.bk.lt _ rfl).2,(h.lg.lt _ rfl).1,(h.lg.lt _ rfl).2⟩
def dZ.slcR (h:dZ w lo v r):cG w lo w.heap.size 7 (some ⟨v.gR,0,none⟩) r.recs.length v.cR (recs r.recs):=zY h.rc aH
def dZ.slcW (h:dZ w lo v r):cG w lo w.heap.size 2 (some ⟨v.gW,0,none⟩) r.wait.length v.cW (bH r.wait):=zY h.wt aH
def dZ.slcB (h:dZ w lo v r):cG w lo w.heap.size 2 (some ⟨v.gB,0,none⟩) r.back.length v.cB (bH r.back):=zY h.bk aH
def dZ.clock (h:dZ w lo v r)(k:Int):dZ w lo v {r with clk:=k}:=⟨h.rc,h.wt,h.bk,h.lg,h.ap⟩
variable {xs:List bE}
theorem dZ.newW {m g c:Nat}(h:dZ w lo v r)(hk:∀b,b<w.heap.size->w'.heap[b]? =w.heap[b]?)(ho:w'.ownsRow lo 100 2 (.slice (some ⟨g,0,none⟩) m c) m (bH xs))(hm:m=xs.length)(hg:w.heap.size<=g):
 dZ w' lo {v with gW:=g,cW:=c} {r with wait:=xs}:=by
 have l:=h.lts;have k:=h.keep hk;subst hm;exact⟨k.rc,ho,k.bk,k.lg,by have:=h.ap;simp only;omega⟩
theorem dZ.newB {m g c:Nat}(h:dZ w lo v r)(hk:∀b,b<w.heap.size->w'.heap[b]? =w.heap[b]?)(ho:w'.ownsRow lo 100 2 (.slice (some ⟨g,0,none⟩) m c) m (bH xs))(hm:m=xs.length)(hg:w.heap.size<=g):
 dZ w' lo {v with gB:=g,cB:=c} {r with back:=xs}:=by
 have l:=h.lts;have k:=h.keep hk;subst hm;exact⟨k.rc,k.wt,ho,k.lg,by have:=h.ap;simp only;omega⟩
theorem dZ.appB {m g c:Nat}{x:bE}(h:dZ w lo v r)(hg:w.grownBy w' (some v.gB))(ho:w'.ownsRow lo 100 2 (.slice (some ⟨g,0,none⟩) m c) m (bH r.back++x.cells))(hm:m=r.back.length+1)(hw:g=v.gB\/w.heap.size<=g):
 dZ w' lo {v with gB:=g,cB:=c} {r with back:=r.back++[x]}:=by
 have l:=h.lts;have a:=h.ap;subst hm;refine⟨h.rc.kept hg (.inr Hg),h.wt.kept hg (.inr Hg),?_,h.lg.kept hg (.inr Hg),by simp only;omega⟩;have e:bH (r.back++[x])=bH r.back++x.cells:=zoE _ _;simp only[fL.sB,jH,rG,wD];rw[e];exact ho
theorem dZ.appR {m g c:Nat}{x:bR}(h:dZ w lo v r)(hg:w.grownBy w' (some v.gR))(ho:w'.ownsRow lo 50 7 (.slice (some ⟨g,0,none⟩) m c) m (recs r.recs++x.cells))(hm:m=r.recs.length+1)(hw:g=v.gR\/w.heap.size<=g):
 dZ w' lo {v with gR:=g,cR:=c} {r with recs:=r.recs++[x]}:=by
 have l:=h.lts;have a:=h.ap;subst hm;refine⟨?_,h.wt.kept hg (.inr Hg),h.bk.kept hg (.inr Hg),h.lg.kept hg (.inr Hg),by simp only;omega⟩;have e:recs (r.recs++[x])=recs r.recs++x.cells:=by simp[recs]
 simp only[fL.sR,jH,rG,wD];rw[e];exact ho
theorem dZ.appL {m g c:Nat}{x:List UInt8}(h:dZ w lo v r)(hg:w.grownBy w' (some v.gL))(ho:w'.ownsRow lo 9 1 (.slice (some ⟨g,0,none⟩) m c) m (vO r.log++[.string ⟨x.toArray⟩]))(hm:m=r.log.length+1)(hw:g=v.gL\/w.heap.size<=g):
 dZ w' lo {v with gL:=g,cL:=c} {r with log:=r.log++[x]}:=by
 have l:=h.lts;have a:=h.ap;subst hm;refine⟨h.rc.kept hg (.inr Hg),h.wt.kept hg (.inr Hg),h.bk.kept hg (.inr Hg),?_,by simp only;omega⟩;have e:vO (r.log++[x])=vO r.log++[.string ⟨x.toArray⟩]:=by simp[vO,txt]
 simp only[fL.sL,jH,rG,wD];rw[e];exact ho
end
variable {rs:List bR}{i:Nat}{v:aF}
theorem zsh {j:Nat}{f:bR->bR}(hd:rs[i]? =some d)(hj:j<7)(hs:∀k,k<7->k≠j->(f d).cells[k]? =d.cells[k]?)(hv:(f d).cells[j]? =some v):(recs rs).set (i*7+j) v=recs (rs.modify i f):=by
 apply zml;intro q;obtain⟨a,b,rfl,hb⟩:∃a b,q=a*7+b/\b<7:=⟨q/7,q%7,aC,aC⟩;have g:∀(l:List bR),(recs l)[a*7+b]? =(l[a]?).bind λx=>x.cells[b]? :=λl=>Np bR.cells (s:=7) (λ_=>rfl) l a b hb;rw[List.getElem?_set,g,g,J0];have hlen:(recs rs).length=rs.length*7:=zwd rs;have hi:=(kP.1 hd).1;by_cases e:i*7+j=a*7+b
 .grind
 .grind
theorem zyC (l:Int)(h:rs[k]? =some d):rP (rs.take (k+1)) l=(rP (rs.take k) l||(d.l==l&&eD d)):=by
 unfold rP;rw[Ia,h];simp[List.any_append]
theorem zGc (rs:List bR)(n:Nat):yH rs (n+1)=yH rs n++(if rP rs ((n:Int)+1) then[] else[(n:Int)+1]):=by
 unfold yH;rw[List.range_succ,List.map_append,Pl];congr 1;simp only[gT,tW,zuR,List.filter_nil];cases rP rs ((n:Int)+1)<;>simp
theorem znF (rs:List bR)(n:Nat):(yH rs n).length<=n:=by
 unfold yH;exact eH (za1 _ _) aN
theorem zyz (xs:List Int)(x:Int):fF (xs++[x])=fF xs++[.int .i64 x]:=by simp[fF]
def zHG:(aK.info? 3).map (λi=>(i.zero,i.size,i.bytes))=some (some (.int .i64 0),1,8):=aT
def Cu {o:fQ}(h:sP o=true):1<=o.ln/\o.ln<=6/\1<=o.op/\o.op<=4/\1<=o.pt/\o.pt<=60:=of_decide_eq_true h
theorem zsE (lo:Nat)(v:fL)(r:bY)(w:aE)(h:dZ w lo v r)(hn:r.recs.length<=100000)(ho:sP r.o=true):
 gH aK 90 #[.agg (fS v r)] w λe w'=>∃x,e=.returned x/\zl6 3 1 w (oT r.o r.recs).length (fF (oT r.o r.recs)) x w':=by
 obtain⟨i0,eR,fG,dB,gQ⟩:=Ch zHG;have HI:=aD (And.intro eR (And.intro fG (And.intro dB gQ)));clear eR fG dB gQ;obtain⟨l0,l1,-,-,-,-⟩:=Cu ho;have hs:=h.slcR;obtain⟨n,C5⟩:=aP r.recs.length;have zms:n<=100000:=aC;have HN:=aD C5;obtain⟨rs,zhl⟩:=aP r.recs;have zLg:=aD zhl;obtain⟨gb,eY⟩:=aP w.heap.size;have fX:=aD eY;obtain⟨ln,zO⟩:=aP r.o.ln;have zpF:=aD zO;obtain⟨m,hm⟩:=aP (ln.toNat:Nat);have Vz:ln=(m:Int):=aC;obtain⟨O,hO⟩:=aP (.cells (fS v r) 59:qD);have lO:(w.alloc O).heap[gb]? =some (G8 v r):=by rw[hO,eY];exact gP _ _
 have B0:cF w.heap.size w (w.alloc O):=eT (fW _ _) O;have hz:(w.alloc O).heap.size=gb+1:=by rw[eY];simp
 have hF:oT r.o r.recs=yH rs m:=by unfold oT;rw[<-zO,<-zhl,<-hm]
 have HF:=aD hF;have V6:=aI lO 0;rw[<-C5,<-zhl] at hs;have zzi:=aD lO;have Py:=aD B0;have HZ:=aD hz;rw[<-zO] at l0 l1;clear hF C5 zhl eY zO hm h V6;have HO:=aD hO;have zy4:=aD Vz;rw[Vz] at l0 l1;clear hO lO B0 hz
 go_enter Tryz.func90,Tryz.ntmps90
 go_wp2_with fail
 rw[<-HO.o]
 go_loopw [3,4] (λx i wr=>∃(k g L cl:Nat),k<=m/\i=.int .i64 ((k:Int)+1)/\L=(yH rs k).length/\x=.slice (some ⟨g,0,none⟩) L cl/\cF (gb+1) (w.alloc O) wr/\wr.ownsRow (gb+1) 3 1 (.slice (some ⟨g,0,none⟩) L cl) L (fF (yH rs k))) (λ_ i _=>1000-(intOf i).toNat)
 case atStart=>
  have hz:=HZ.o;refine⟨0,gb+1,0,0,lP _,aN,rfl,by rw[fX.o],?_,Oh (bF _) (lZ _ _ hz.symm)⟩;rw[<-hz];exact eT (fW _ _) _
 case round=>
  obtain⟨k,g,L,cl,hk,rfl,hL,rfl,B,cT⟩:=hrel;have HL:=aD hL;have Le:=aD cT;have HB:=aD B;have zyf:=B.size;have hz:=HZ.o;have qQ:=(B.block gb aC).trans zzi.o;have e0:=aI qQ 0;have e4:=aI qQ 4;have hlen:=znF rs k;rw[<-hL] at hlen;have Gs:=hs.below (Py.o.trans (B.mono tD));have Zp:wr.cell? ⟨w.heap.size,0,none⟩=some (.int .i64 (m:Int)):=by rw[<-fX.o,e0,<-zy4.o,zpF.o];rfl
  have zK9:wr.cell? ⟨w.heap.size,4,none⟩=some (.slice (some ⟨v.gR,0,none⟩) n v.cR):=by rw[<-fX.o,e4,HN.o];rfl
  have zgf:=aD (zGc rs k);have zEX:=aD Gs.recLen;clear hL cT e0 e4 qQ B hz hs;by_cases aS:k<m
  .obtain⟨l,hl⟩:=aP ((k:Int)+1:Int)
   have zK8:1<=l:=aC;have Qc:l<=(m:Int):=aC;rw[<-hl] at zgf⊢;have zgs:=aD hl;clear hl
   go_wp2_with fail
   go_loop [5,6] (λu i=>∃j:Nat,j<=n/\u=.bool (rP (rs.take j) l)/\i=.int .i64 j) (λ_ i=>n-(intOf i).toNat)
   case atStart=>exact⟨0,lP _,rfl,rfl⟩
   case round=>
    obtain⟨j,hj,rfl,rfl⟩:=hrel;by_cases zEN:j<n
    .obtain⟨b,off,d,hA,_,_,h3,eK,gI,pA,Be,Hv,Hc,nV,zeQ⟩:=Gs.rec7 zEN
     have HU:=aD (zyC l eK);have i0:(0:Int)<=(j:Int):=aC;have i1:(j:Int)<(n:Int):=aC;injection hA with hA;injection hA with As Ag;subst As Ag;simp only[qH] at pA zeQ;clear eK Gs gI Be Hv Hc nV h3;cases hu:rP (rs.take j) l
     .rw[hu] at HU
      cases hq:(d.l==l)
      .have Ev:=aD (show rP (rs.take (j+1)) l=false by rw[HU.o,hq];rfl)
       go_wp2
       go_round
       case rel=>exact⟨j+1,aC,by rw[Ev.o],oL⟩
       case measure=>simp[intOf];omega
      .cases hd:(d.e.toList==[111,112,101,110])
       .have Ev:=aD (show rP (rs.take (j+1)) l=false by rw[HU.o,hq];unfold eD;rw[hd];rfl)
        go_wp2
        go_round
        case rel=>exact⟨j+1,aC,by rw[Ev.o],oL⟩
        case measure=>simp[intOf];omega
       .have Ev:=aD (show rP (rs.take (j+1)) l=true by rw[HU.o,hq];unfold eD;rw[hd];rfl)
        go_wp2
        go_round
        case rel=>exact⟨j+1,aC,by rw[Ev.o],oL⟩
        case measure=>simp[intOf];omega
     .rw[hu] at HU
      have Ev:=aD (show rP (rs.take (j+1)) l=true by rw[HU.o];rfl);clear pA zeQ;go_wp2
      go_round
      case rel=>exact⟨j+1,aC,by rw[Ev.o],oL⟩
      case measure=>simp[intOf];omega
    .have e:j=n:=aC
     subst e;have HT:=aD (show rs.take j=rs by rw[zP (by rw[zEX.o];exact bF _)]);rw[HT.o];clear Gs;obtain⟨u,hu⟩:=aP (rP rs l);rw[<-hu] at zgf⊢;clear hu;cases u
     .have Ev:=aD (show yH rs (k+1)=yH rs k++[l] by rw[zgf.o];rfl)
      obtain⟨eR,fG,dB,gQ⟩:=HI.o;have HH:=aD eR;have zf6:=HZ.o;clear eR
      go_wp2_with (at_builtin;refine zm8 _ rfl (.tmp 44) (.tmp 46) 38 rfl (gb+1) 3 i0 (.int .i64 0) 1 8 Tryz.underlying38 HH.o fG dB gQ rfl aH (.slice (some ⟨g,0,none⟩) L cl) L (fF (yH rs k)) rfl (Al Le.o ?c1) aN ⟨_,0,none⟩ 1 1 [.int .i64 l] rfl rfl ?c2 Mp ?c5 ?c6 ?c7 ?_;(case c1=>exact λb hb=>qE _ _ b hb);(case c2=>exact Dn (cs:=#[.int .i64 l]) (lZ _ _ aN));(case c5=>unfold maxLen;omega);(case c6=>omega);(case c7=>(simp;omega));intro g1 c1 w1 rD qR B1;have An:=aD rD;have jG:=aD B1;clear rD qR B1)
      go_roundw
      case rel=>
       refine⟨k+1,g1,L+1,c1,aC,by rw[zgs.o];push_cast;rfl,by rw[Ev.o,HL.o];simp,rfl,?_,?_⟩
       .have b1:=HB.o
        exact(b1.alloc aC _).trans jG.o
       .rw[Ev.o,zyz];exact An.o
      case measure=>have:=zgs.o;simp[intOf];omega
     .have Ev:=aD (show yH rs (k+1)=yH rs k by rw[zgf.o];simp)
      go_wp2;go_roundw
      case rel=>exact⟨k+1,g,L,cl,aC,by rw[zgs.o];push_cast;rfl,by rw[Ev.o];exact HL.o,rfl,HB.o,by rw[Ev.o];exact Le.o⟩
      case measure=>have:=zgs.o;simp[intOf];omega
  .have e:k=m:=aC
   subst e;clear Gs;go_wp2;go_ret;refine⟨_,rfl,g,cl,by rw[HF.o,<-HL.o];rfl,?_,Py.o.trans (HB.o.mono (by have:=fX.o;omega))⟩;rw[HF.o,<-HL.o];obtain⟨h1,h2⟩:=Le.o;refine⟨h1,h2.imp id λ⟨b,cap,cur,e1,e2,e3⟩=>⟨b,cap,cur,e1,by have:=fX.o;omega,e3⟩⟩
variable {xs:List aF}{s:Nat}
theorem cG.takeS {g:Nat}(h:cG w lo hi s (some ⟨g,0,none⟩) n c xs)(hk:k<=n):cG w lo hi s (some ⟨g,0,none⟩) k c (xs.take (k*s)):=by
 refine⟨by rw[sE,h.len];exact Nat.min_eq_left (Dg _ hk),eH hk h.le,h.cap,λh0=>?_⟩;obtain⟨b,off,e,h1,h2,h3,h4⟩:=h.at_ aC;refine⟨b,off,e,h1,h2,h3,λj v hv=>h4 j v ?_⟩;rw[List.getElem?_take] at hv;split at hv
 .exact hv
 .cases hv
theorem cG.dropS {g:Nat}(h:cG w lo hi s (some ⟨g,0,none⟩) n c xs)(hk:k<=n):cG w lo hi s (some ⟨g,k*s,none⟩) (n-k) (c-k) (xs.drop (k*s)):=by
 refine⟨by rw[yG,h.len,Nat.sub_mul],by have:=h.le;omega,by have:=h.cap;omega,λh0=>?_⟩;obtain⟨b,off,e,h1,h2,h3,h4⟩:=h.at_ aC;injection e with e;injection e with e1 e2;subst e1 e2;refine⟨g,k*s,rfl,h1,h2,h3,λj v hv=>?_⟩;rw[List.getElem?_drop] at hv;have:=h4 (k*s+j) v hv
 rwa [qH] at this
theorem cG.dropI {g:Nat}(h:cG w lo hi s (some ⟨g,0,none⟩) n c xs)(hk:k<=n):cG w lo hi s (if c=k then some ⟨g,0,none⟩ else some ⟨g,k*s,none⟩) (n-k) (c-k) (xs.drop (k*s)):=by
 have d:=h.dropS hk;by_cases e:c=k
 .rw[if_pos e]
  exact⟨d.len,d.le,d.cap,λh0=>by have:=h.le;omega⟩
 .simp_all
theorem zoc (xs:List bE)(k:Nat):(bH xs).take (k*2)=bH (xs.take k):=by
 induction xs generalizing k with
 |nil=>simp[bH]
 |cons x xs ih=>
  cases k with
  |zero=>simp[bH]
  |succ k=>
   have e:(k+1)*2=k*2+1+1:=aC;rw[e];simp only[bH,zdt,bE.cells,Ra,zgr,List.take_succ_cons];have:=ih k;unfold bH at this;rw[this]
theorem zr0 (xs:List bE)(k:Nat):(bH xs).drop (k*2)=bH (xs.drop k):=by
 induction xs generalizing k with
 |nil=>simp[bH]
 |cons x xs ih=>
  cases k with
  |zero=>simp[bH]
  |succ k=>
   have e:(k+1)*2=k*2+1+1:=aC;rw[e];simp only[bH,zdt,bE.cells,Ra,zgr,List.drop_succ_cons];have:=ih k;unfold bH at this;rw[this]
theorem zqD (xs ys:List bE):bH (xs++ys)=bH xs++bH ys:=by simp[bH]
theorem Zh (xs:List bE):∀u∈bH xs,u.oneCell'=true:=by
 intro u hu;obtain⟨d,_,hd⟩:=List.mem_flatMap.1 hu;simp only[bE.cells,List.mem_cons,List.not_mem_nil,or_false] at hd;rcases hd with rfl|rfl<;>rfl
theorem zn4 {xs:List bE}{x:bE}(hk:k<=xs.length)(h:∀j,j<k->∀b,xs[j]? =some b->x.p<=b.p)(hn:∀b,xs[k]? =some b->¬x.p<=b.p):uA xs x=xs.take k++x::xs.drop k:=by
 unfold uA
 induction xs generalizing k with
 |nil=>simp
 |cons y ys ih=>
  cases k with
  |zero=>simp_all
  |succ k=>
   have hy:=h 0 aC y rfl;have:=ih (k:=k) (by simpa using hk) (λj hj b hb=>h (j+1) aC b zfa) (λb hb=>hn b zfa);simp[List.takeWhile_cons,List.dropWhile_cons,hy,this]
def zgn {W:aE}(h:W.cell? a1=some v1/\W.cell? a2=some v2/\cF W0.heap.size W0 W):cF W0.heap.size W0 W:=h.2.2
variable {u:aF}
def zvu {a b:bC}(h:w.cell? a=some u)(k:w.cell? b=some v):w.cell? a=some u/\w.cell? b=some v:=⟨h,k⟩
theorem zEV (lo hi n c g:Nat)(xs:List bE)(x:bE)(w:aE)(h:cG w lo hi 2 (some ⟨g,0,none⟩) n c (bH xs))(hn:n<=100000):
 gH aK 93 #[.slice (some ⟨g,0,none⟩) n c,.agg #[.int .i64 x.c,.int .i64 x.p]] w λe w'=>∃v,e=.returned v/\zl6 100 2 w (uA xs x).length (bH (uA xs x)) v w':=by
 have hl:=aD h.callsLen;have zqt:=aD h.le;obtain⟨i0,eR,fG,dB,gQ⟩:=Ch zez;have HI:=aD (And.intro eR (And.intro fG (And.intro dB gQ)));clear eR fG dB gQ;obtain⟨gb,eY⟩:=aP w.heap.size;have fX:=aD eY;obtain⟨O,hO⟩:=aP (.cells #[.int .i64 x.c,.int .i64 x.p] 100:qD);have lO:(w.alloc O).heap[gb]? =some (.cells #[.int .i64 x.c,.int .i64 x.p] 100):=by rw[hO,eY];exact gP _ _
 have yU:=aD lO;have Py:=aD (eT (fW w.heap.size w) O);have HO:=aD hO;clear eY hO lO
 go_enter Tryz.func93,Tryz.ntmps93
 go_wp2_with fail
 rw[<-HO.o,<-fX.o]
 go_loopw [5] (λi wr=>∃k:Nat,k<=n/\i=.int .i64 k/\cF (w.alloc O).heap.size (w.alloc O) wr/\∀j,j<k->∀b,xs[j]? =some b->x.p<=b.p) (λi _=>n-(intOf i).toNat)
 case atStart=>exact⟨0,lP _,rfl,fW _ _,λj hj=>absurd hj aC⟩
 case round=>
  obtain⟨k,hk,rfl,B,gS⟩:=hrel;have HC:=aD gS;have kg:=(mP B yU.o).1;have zg:=(mP B yU.o).2;have e0:=aI kg 0;have e1:=aI kg 1;have BW:=Py.o.trans (B.mono Py.o.size);have hs:=h.below BW;have zo0:(0:Int)<=(k:Int):=aC;have Kh:=aD BW;have HB:=aD B;clear gS kg BW B;by_cases aS:k<n
  .obtain⟨b,off,d,hA,_,_,h3,eK,gI,pA⟩:=hs.callsAt aS
   injection hA with hA;injection hA with As Ag;subst As Ag;simp only[qH] at gI pA;have HX:=aD eK;have i1:(k:Int)<(n:Int):=aC;by_cases hp:x.p<=d.p
   .have HP:=aD hp
    have zD7:decide (x.p<=d.p)=true:=decide_eq_true hp;clear eK h hs h3 gI hp
    go_wp2_with fail
    go_quiet (fail)
    go_wp2;go_roundw
    case rel=>exact⟨k+1,aC,oL,⟨HB.o.os,HB.o.tape,HB.o.output,HB.o.size,HB.o.block⟩,λj hj b hb=>by
     by_cases e:j=k
     .subst e;rw[HX.o] at hb;injection hb with hb;exact hb▸HP.o
     .exact HC.o j aC b hb⟩
    case measure=>simp[intOf];omega
   .have HQ:=aD (zn4 (x:=x) (k:=k) sU HC.o (λb hb=>by simp_all))
    have zD7:decide (x.p<=d.p)=false:=decide_eq_false hp;clear eK h3 gI hp
    go_wp2_with fail
    go_quiet (fail)
    go_wp2_with fail
    obtain⟨wq,tE⟩:=aP (wr.drewN nq);rw[<-tE];replace hs:cG wq lo hi 2 (some ⟨g,0,none⟩) n c (bH xs):=by rw[tE];exact⟨hs.len,hs.le,hs.cap,hs.at_⟩
    replace e0:wq.cell? ⟨gb,0,none⟩=some (.int .i64 x.c):=by rw[tE];exact e0
    replace e1:wq.cell? ⟨gb,1,none⟩=some (.int .i64 x.p):=by rw[tE];exact e1
    replace zg:gb<wq.heap.size:=by rw[tE];exact zg
    have zbf:=aD (show cF w.heap.size w wq by rw[tE];exact⟨Kh.o.os,Kh.o.tape,Kh.o.output,Kh.o.size,Kh.o.block⟩);have zFe:=aD (show wr.heap.size<=wq.heap.size by simp_all);clear tE;have HN:=aD (bF wq.heap.size);have Ex:=aD (zoc xs k▸hs.takeS hk);have Sb:=aD (zr0 xs k▸hs.dropI hk);have zxd:=aD zg;obtain⟨eR,fG,dB,gQ⟩:=HI.o;have HH:=aD eR;have nK:=zqt.o;have za2:=aD (zvu e0 e1);have k1:(k:Int)<=(n:Int):=aC;have k2:(n:Int)<=(c:Int):=aC;have k3:(k:Int)<=(c:Int):=aC;clear eR hs h
    go_region_held3 (λW=>W.cell? ⟨gb,0,none⟩=some (.int .i64 x.c)/\W.cell? ⟨gb,1,none⟩=some (.int .i64 x.p)/\cF wq.heap.size wq W)
     ((refine ztU zfV zfV za2.o.1 za2.o.2 ?_;(repeat' (first|with_reducible assumption|with_reducible exact zgn zdK|with_reducible exact fW _ _|with_reducible apply eT|with_reducible apply zd5));done))
     (first
      |(refine zed _ rfl (.tmp 22) (.tmp 25) 57 rfl wq.heap.size 100 i0 (.agg #[.int .i64 0,.int .i64 0]) 2 16 Lf HH.o fG dB gQ rfl aH _ 0 0 [] rfl (Oh ?c1 ?c2) (some ⟨g,0,none⟩) k c _ _ (bH (xs.take k)) rfl (Ex.o.below ?c3) (Zh _) ?c5 ?c6 ?c7 ?_;(case c1=>first|omega|(simp;done)|(simp;omega));(case c2=>((try with_reducible apply Li);(first|with_reducible assumption|(with_reducible refine lZ _ _ ?_;simp)|(with_reducible refine dG ?_ _;first|with_reducible assumption|(with_reducible refine lZ _ _ ?_;simp))|(with_reducible refine dG ?_ _;with_reducible refine dG ?_ _;first|with_reducible assumption|(with_reducible refine lZ _ _ ?_;simp))|(with_reducible refine dG ?_ _;with_reducible refine dG ?_ _;with_reducible refine dG ?_ _;first|with_reducible assumption|(with_reducible refine lZ _ _ ?_;simp)))));(case c3=>(repeat' (first|with_reducible assumption|with_reducible exact zgn zdK|with_reducible exact fW _ _|with_reducible apply eT|with_reducible apply zd5)));(case c5=>unfold maxLen;omega);(case c6=>omega);(case c7=>first|omega|(simp;done)|(simp;omega));intro g1 zng w9 rD qR B1;rw[qH];simp only[qH,zgr] at rD;have An:=aD rD;have q8:=aD qR;have BW:cF wq.heap.size wq w9:=cF.trans tD B1;have z9:=BW.size;clear rD qR B1)
      |(refine zqx _ rfl (.tmp 26) (.tmp 28) 57 rfl wq.heap.size 100 i0 (.agg #[.int .i64 0,.int .i64 0]) 2 16 Lf HH.o fG dB gQ rfl aH (.slice (some ⟨g1,0,none⟩) k zng) k (bH (xs.take k)) rfl ?c1 aN ⟨_,0,none⟩ 1 1 [.int .i64 x.c,.int .i64 x.p] rfl rfl (Dn (cs:=#[.int .i64 x.c,.int .i64 x.p]) (t:=100) (fr:=(0,0)) ?c2) (by simp[zuV]) ?c5 ?c6 ?c7 ?_;(case c1=>first|exact An.o|exact Al An.o (λb hb=>qE _ _ b hb));(case c2=>first|exact gP _ _|exact(q8.o.block _ zfu zuu).trans (by((try with_reducible apply Li);(first|with_reducible assumption|(with_reducible refine lZ _ _ ?_;simp)|(with_reducible refine dG ?_ _;first|with_reducible assumption|(with_reducible refine lZ _ _ ?_;simp))|(with_reducible refine dG ?_ _;with_reducible refine dG ?_ _;first|with_reducible assumption|(with_reducible refine lZ _ _ ?_;simp))|(with_reducible refine dG ?_ _;with_reducible refine dG ?_ _;with_reducible refine dG ?_ _;first|with_reducible assumption|(with_reducible refine lZ _ _ ?_;simp))))));(case c5=>unfold maxLen;omega);(case c6=>omega);(case c7=>first|omega|(simp;done)|(simp;omega));intro g2 znq vJ zcX zlt B2;have zaH:=aD zcX;have Um:cF wq.heap.size wq vJ:=cF.trans (by first|exact BW|exact eT BW _) B2;have zHY:=Um.size;clear zcX zlt B2)
      |(refine zed _ rfl (.tmp 29) (.tmp 32) 57 rfl wq.heap.size 100 i0 (.agg #[.int .i64 0,.int .i64 0]) 2 16 Lf HH.o fG dB gQ rfl aH g2 (k+1) znq (bH (xs.take k)++[.int .i64 x.c,.int .i64 x.p]) rfl zaH.o (if c=k then some ⟨g,0,none⟩ else some ⟨g,k*2,none⟩) (n-k) (c-k) _ _ (bH (xs.drop k)) rfl (Sb.o.below Um) (Zh _) ?c5 ?c6 ?c7 ?_;(case c5=>unfold maxLen;omega);(case c6=>omega);(case c7=>first|omega|(simp;done)|(simp;omega));intro g3 zj3 zG zcM zme B3;have Yw:=aD zcM;have zaE:cF wq.heap.size wq zG:=Um.trans B3;have zy9:=zaE.size;clear zcM zme B3))
    all_goals go_wp2_with fail
    all_goals go_ret
    all_goals
     have zf6:=zbf.o.size;have eQ:(uA xs x).length=k+1+(n-k):=by
      rw[HQ.o,jH,sE,rG,yG,hl.o];omega
     refine⟨_,rfl,g3,zj3,?_,?_,zbf.o.trans (zaE.mono zf6)⟩
     .rw[eQ];rfl
     .obtain⟨h1,h2⟩:=Yw.o
      have e:=eQ;have e2:bH (uA xs x)=bH (xs.take k)++[.int .i64 x.c,.int .i64 x.p]++bH (xs.drop k):=by rw[HQ.o,zqD];simp[bH,bE.cells]
      rw[e,e2];exact⟨h1,h2.imp id λ⟨b,cap,cur,e1,e2,e3⟩=>⟨b,cap,cur,e1,aC,e3⟩⟩
  .have HQ:=aD (zn4 (x:=x) (k:=k) (by rw[hl.o];exact hk) HC.o (λb hb=>by rw[Ue (by rw[hl.o];omega)] at hb;cases hb))
   have nX:decide ((k:Int)<(n:Int))=false:=decide_eq_false aC
   go_wp2_with fail
   go_quiet (fail)
   go_wp2_with fail
   obtain⟨wq,tE⟩:=aP (wr.drewN nq);rw[<-tE];replace hs:cG wq lo hi 2 (some ⟨g,0,none⟩) n c (bH xs):=by rw[tE];exact⟨hs.len,hs.le,hs.cap,hs.at_⟩
   replace e0:wq.cell? ⟨gb,0,none⟩=some (.int .i64 x.c):=by rw[tE];exact e0
   replace e1:wq.cell? ⟨gb,1,none⟩=some (.int .i64 x.p):=by rw[tE];exact e1
   replace zg:gb<wq.heap.size:=by rw[tE];exact zg
   have zbf:=aD (show cF w.heap.size w wq by rw[tE];exact⟨Kh.o.os,Kh.o.tape,Kh.o.output,Kh.o.size,Kh.o.block⟩);have zFe:=aD (show wr.heap.size<=wq.heap.size by simp_all);clear tE;have HN:=aD (bF wq.heap.size);have Ex:=aD (zoc xs k▸hs.takeS hk);have Sb:=aD (zr0 xs k▸hs.dropI hk);have zxd:=aD zg;obtain⟨eR,fG,dB,gQ⟩:=HI.o;have HH:=aD eR;have nK:=zqt.o;have za2:=aD (zvu e0 e1);have k1:(k:Int)<=(n:Int):=aC;have k2:(n:Int)<=(c:Int):=aC;have k3:(k:Int)<=(c:Int):=aC;clear eR hs h
   go_region_held3 (λW=>W.cell? ⟨gb,0,none⟩=some (.int .i64 x.c)/\W.cell? ⟨gb,1,none⟩=some (.int .i64 x.p)/\cF wq.heap.size wq W)
    ((refine ztU zfV zfV za2.o.1 za2.o.2 ?_;(repeat' (first|with_reducible assumption|with_reducible exact zgn zdK|with_reducible exact fW _ _|with_reducible apply eT|with_reducible apply zd5));done))
    (first
     |(refine zed _ rfl (.tmp 22) (.tmp 25) 57 rfl wq.heap.size 100 i0 (.agg #[.int .i64 0,.int .i64 0]) 2 16 Lf HH.o fG dB gQ rfl aH _ 0 0 [] rfl (Oh ?c1 ?c2) (some ⟨g,0,none⟩) k c _ _ (bH (xs.take k)) rfl (Ex.o.below ?c3) (Zh _) ?c5 ?c6 ?c7 ?_;(case c1=>first|omega|(simp;done)|(simp;omega));(case c2=>((try with_reducible apply Li);(first|with_reducible assumption|(with_reducible refine lZ _ _ ?_;simp)|(with_reducible refine dG ?_ _;first|with_reducible assumption|(with_reducible refine lZ _ _ ?_;simp))|(with_reducible refine dG ?_ _;with_reducible refine dG ?_ _;first|with_reducible assumption|(with_reducible refine lZ _ _ ?_;simp))|(with_reducible refine dG ?_ _;with_reducible refine dG ?_ _;with_reducible refine dG ?_ _;first|with_reducible assumption|(with_reducible refine lZ _ _ ?_;simp)))));(case c3=>(repeat' (first|with_reducible assumption|with_reducible exact zgn zdK|with_reducible exact fW _ _|with_reducible apply eT|with_reducible apply zd5)));(case c5=>unfold maxLen;omega);(case c6=>omega);(case c7=>first|omega|(simp;done)|(simp;omega));intro g1 zng w9 rD qR B1;rw[qH];simp only[qH,zgr] at rD;have An:=aD rD;have q8:=aD qR;have BW:cF wq.heap.size wq w9:=cF.trans tD B1;have z9:=BW.size;clear rD qR B1)
     |(refine zqx _ rfl (.tmp 26) (.tmp 28) 57 rfl wq.heap.size 100 i0 (.agg #[.int .i64 0,.int .i64 0]) 2 16 Lf HH.o fG dB gQ rfl aH (.slice (some ⟨g1,0,none⟩) k zng) k (bH (xs.take k)) rfl ?c1 aN ⟨_,0,none⟩ 1 1 [.int .i64 x.c,.int .i64 x.p] rfl rfl (Dn (cs:=#[.int .i64 x.c,.int .i64 x.p]) (t:=100) (fr:=(0,0)) ?c2) (by simp[zuV]) ?c5 ?c6 ?c7 ?_;(case c1=>first|exact An.o|exact Al An.o (λb hb=>qE _ _ b hb));(case c2=>first|exact gP _ _|exact(q8.o.block _ zfu zuu).trans (by((try with_reducible apply Li);(first|with_reducible assumption|(with_reducible refine lZ _ _ ?_;simp)|(with_reducible refine dG ?_ _;first|with_reducible assumption|(with_reducible refine lZ _ _ ?_;simp))|(with_reducible refine dG ?_ _;with_reducible refine dG ?_ _;first|with_reducible assumption|(with_reducible refine lZ _ _ ?_;simp))|(with_reducible refine dG ?_ _;with_reducible refine dG ?_ _;with_reducible refine dG ?_ _;first|with_reducible assumption|(with_reducible refine lZ _ _ ?_;simp))))));(case c5=>unfold maxLen;omega);(case c6=>omega);(case c7=>first|omega|(simp;done)|(simp;omega));intro g2 znq vJ zcX zlt B2;have zaH:=aD zcX;have Um:cF wq.heap.size wq vJ:=cF.trans (by first|exact BW|exact eT BW _) B2;have zHY:=Um.size;clear zcX zlt B2)
     |(refine zed _ rfl (.tmp 29) (.tmp 32) 57 rfl wq.heap.size 100 i0 (.agg #[.int .i64 0,.int .i64 0]) 2 16 Lf HH.o fG dB gQ rfl aH g2 (k+1) znq (bH (xs.take k)++[.int .i64 x.c,.int .i64 x.p]) rfl zaH.o (if c=k then some ⟨g,0,none⟩ else some ⟨g,k*2,none⟩) (n-k) (c-k) _ _ (bH (xs.drop k)) rfl (Sb.o.below Um) (Zh _) ?c5 ?c6 ?c7 ?_;(case c5=>unfold maxLen;omega);(case c6=>omega);(case c7=>first|omega|(simp;done)|(simp;omega));intro g3 zj3 zG zcM zme B3;have Yw:=aD zcM;have zaE:cF wq.heap.size wq zG:=Um.trans B3;have zy9:=zaE.size;clear zcM zme B3))
   all_goals go_wp2_with fail
   all_goals go_ret
   all_goals
    have zf6:=zbf.o.size;have eQ:(uA xs x).length=k+1+(n-k):=by
     rw[HQ.o,jH,sE,rG,yG,hl.o];omega
    refine⟨_,rfl,g3,zj3,?_,?_,zbf.o.trans (zaE.mono zf6)⟩
    .rw[eQ];rfl
    .obtain⟨h1,h2⟩:=Yw.o
     have e:=eQ;have e2:bH (uA xs x)=bH (xs.take k)++[.int .i64 x.c,.int .i64 x.p]++bH (xs.drop k):=by rw[HQ.o,zqD];simp[bH,bE.cells]
     rw[e,e2];exact⟨h1,h2.imp id λ⟨b,cap,cur,e1,e2,e3⟩=>⟨b,cap,cur,e1,aC,e3⟩⟩
theorem zhK (l:List α)(i:Nat)(f g:α->α):(l.modify i f).modify i g=l.modify i (λx=>g (f x)):=by
 apply zml;intro j;rw[J0,J0,J0];by_cases e:i=j
 .simp[e,Function.comp_def]
 .simp[e]
variable {v:fL}{r:bY}
theorem dZ.setR {j:Nat}(f:bR->bR)(h:dZ w lo v r)(hd:r.recs[i]? =some d)(hj:j<7)(hs:∀k,k<7->k≠j->(f d).cells[k]? =d.cells[k]?)(hv:(f d).cells[j]? =some u):
 dZ (w.setCell ⟨v.gR,i*7+j,none⟩ u) lo v {r with recs:=r.recs.modify i f}/\oV v w (w.setCell ⟨v.gR,i*7+j,none⟩ u):=by
 obtain⟨h1,hg⟩:=h.rc.stored (i*7+j) u;rw[zsh hd hj hs hv] at h1;have a:=h.ap;refine⟨⟨?_,h.wt.kept hg (.inr Hg),h.bk.kept hg (.inr Hg),h.lg.kept hg (.inr Hg),a⟩,⟨hg.os,hg.tape,hg.output,hg.size,λb hb h1 _=>hg.block b hb (λe=>h1 (by injection e))⟩⟩;simp only[fL.sR,Lt];exact h1
theorem dZ.recAt (h:dZ w lo v r)(hd:r.recs[i]? =some d):
 w.cell? ⟨v.gR,i*7,none⟩=some (.int .i64 d.c)/\w.cell? ⟨v.gR,i*7+1,none⟩=some (.int .i64 d.l)/\w.cell? ⟨v.gR,i*7+2,none⟩=some (.int .i64 d.o)/\w.cell? ⟨v.gR,i*7+3,none⟩=some (.int .i64 d.f)/\w.cell? ⟨v.gR,i*7+4,none⟩=some (.int .i64 d.h)/\w.cell? ⟨v.gR,i*7+5,none⟩=some (.int .i64 d.t)/\w.cell? ⟨v.gR,i*7+6,none⟩=some (.string d.e):=by
 have hi:=(kP.1 hd).1;have g:∀j,j<7->w.cell? ⟨v.gR,i*7+j,none⟩=d.cells[j]? :=λj hj=>by
  rw[h.rc.cellAt (i*7+j) aC];have:=Np bR.cells (s:=7) (λ_=>rfl) r.recs i j hj;unfold recs;rw[this,hd];rfl
 exact⟨g 0 aH,g 1 aH,g 2 aH,g 3 aH,g 4 aH,g 5 aH,g 6 aH⟩
variable {b:Nat}{w':aE}
def oV.blk {o:qD}(h:oV v w w')(hb:w.heap[b]? =some o)(h1:b≠v.gR)(h2:b≠v.gB):w'.heap[b]? =some o:=(h.block b (iZ hb) h1 h2).trans hb
theorem Tm (h:rs[i]? =some d):He rs i=d.c:=by unfold He;rw[h]
theorem C4 {E:Nat}{base n g c:Nat}(h:w.ownsRow base E s (.slice (some ⟨g,0,none⟩) n c) n xs)(hb:w'.heap[g]? =w.heap[g]?):w'.ownsRow base E s (.slice (some ⟨g,0,none⟩) n c) n xs:=by
 obtain⟨hl,h|⟨b,cap,cur,e,h1,hg,h2⟩⟩:=h
 .cases h.1
 .injection e with e
  injection e with e;injection e with e;subst e;exact⟨hl,.inr ⟨g,cap,cur,by simp_all,h1,hb.trans hg,h2⟩⟩
def zfC {base base':Nat}{e:aM}{size:Nat}{v:aF}(h:w.ownsRow base e size v n xs)(hb:base'<=base):w.ownsRow base' e size v n xs:=
 ⟨h.1,h.2.imp id λ⟨g,cap,cur,h1,h2,h3⟩=>⟨g,cap,cur,h1,eH hb h2,h3⟩⟩
theorem zAy (v:fL)(r:bY)(i g cp:Nat)(e:ByteArray):(fS v r).setIfInBounds 5 (.slice (some ⟨g,0,none⟩) (dS r.wait (He r.recs i)).length cp)=fS {v with gW:=g,cW:=cp} (kI r i e):=by
 have h:(kI r i e).recs.length=r.recs.length:=Lt _ _ _;simp only[fS,fL.sR,h];rfl
def gU (w:aE)(b:Nat)(a0 a1 a2 a3 a4 a5 a6 a7:aF):World:=(((((((w.setCell ⟨b,0,none⟩ a0).setCell ⟨b,1,none⟩ a1).setCell ⟨b,2,none⟩ a2).setCell ⟨b,3,none⟩ a3).setCell ⟨b,4,none⟩ a4).setCell ⟨b,5,none⟩ a5).setCell ⟨b,6,none⟩ a6).setCell ⟨b,7,none⟩ a7
variable {a1 a2 a0 a3 a4 a5 a6 a7:aF}{T:aM}
theorem zag {z0 z1 z2 z3 z4 z5 z6 z7:aF}(h:w.heap[b]? =some (.cells #[z0,z1,z2,z3,z4,z5,z6,z7] T)):(gU w b a0 a1 a2 a3 a4 a5 a6 a7).heap[b]? =some (.cells #[a0,a1,a2,a3,a4,a5,a6,a7] T):=by
 unfold gU;rw[oH (oH (oH (oH (oH (oH (oH (oH h a0) a1) a2) a3) a4) a5) a6) a7];simp only[List.setIfInBounds_toArray,List.set_cons_zero,List.set_cons_succ]
theorem Gz {x:Nat}(h:x≠b):(gU w b a0 a1 a2 a3 a4 a5 a6 a7).heap[x]? =w.heap[x]? :=by
 unfold gU;rw[dU _ _ _ x h,dU _ _ _ x h,dU _ _ _ x h,dU _ _ _ x h,dU _ _ _ x h,dU _ _ _ x h,dU _ _ _ x h,dU _ _ _ x h]
theorem zln (w:aE)(b:Nat)(a0 a1 a2 a3 a4 a5 a6 a7:aF):(gU w b a0 a1 a2 a3 a4 a5 a6 a7).heap.size=w.heap.size:=by
 unfold gU;simp only[xA]
def zhs (w:aE)(b:Nat)(a0 a1 a2 a3 a4 a5 a6 a7:aF):Chg b (b+1) w (gU w b a0 a1 a2 a3 a4 a5 a6 a7):=
 ((((((((Chg.refl b (b+1) w).setCell (p:=⟨b,0,none⟩) (bF _) (yO _) a0).setCell (p:=⟨b,1,none⟩) (bF _) (yO _) a1).setCell (p:=⟨b,2,none⟩) (bF _) (yO _) a2).setCell (p:=⟨b,3,none⟩) (bF _) (yO _) a3).setCell (p:=⟨b,4,none⟩) (bF _) (yO _) a4).setCell (p:=⟨b,5,none⟩) (bF _) (yO _) a5).setCell (p:=⟨b,6,none⟩) (bF _) (yO _) a6).setCell (p:=⟨b,7,none⟩) (bF _) (yO _) a7
def dZ.set8 (h:dZ w lo v r)(hb:b≠v.gR/\b≠v.gW/\b≠v.gB/\b≠v.gL):dZ (gU w b a0 a1 a2 a3 a4 a5 a6 a7) lo v r:=
 ⟨C4 h.rc (Gz (Ne.symm hb.1)),C4 h.wt (Gz (Ne.symm hb.2.1)),C4 h.bk (Gz (Ne.symm hb.2.2.1)),C4 h.lg (Gz (Ne.symm hb.2.2.2)),h.ap⟩
def oV.set8 {w0:aE}(h:oV v w0 w)(hb:w0.heap.size<=b):oV v w0 (gU w b a0 a1 a2 a3 a4 a5 a6 a7):=
 have c:=zhs w b a0 a1 a2 a3 a4 a5 a6 a7
 ⟨c.os.trans h.os,c.tape.trans h.tape,c.output.trans h.output,eH h.size c.size,λx hx h1 h2=>(Gz aC).trans (h.block x hx h1 h2)⟩
abbrev lA:Obj:=.cells #[.int .i64 0,.int .i64 0,.int .i64 0,.int .i64 0,.slice none 0 0,.slice none 0 0,.slice none 0 0,.slice none 0 0] 59
theorem zmB (lo i:Nat)(v:fL)(r:bY)(d:bR)(e:ByteArray)(w:aE)(h:dZ w lo v r)(hd:r.recs[i]? =some d)(hn:r.recs.length<=100000)(Mn:r.wait.length<=100000)(eF:lo<=w.heap.size):
 gH aK 96 #[.agg (fS v r),.int .i64 (i:Int),.string e] w λx w'=>∃g c,x=.returned (.agg (fS {v with gW:=g,cW:=c} (kI r i e)))/\dZ w' lo {v with gW:=g,cW:=c} (kI r i e)/\oV v w w'/\w.heap.size<=g:=by
 obtain⟨gb,eY⟩:=aP w.heap.size;have hl:=h.lts;have hi:=(kP.1 hd).1;obtain⟨O,hO⟩:=aP (.cells (fS v r) 59:qD);obtain⟨Z,hZ⟩:=aP (lA:qD);have lO:((w.alloc O).alloc Z).heap[gb]? =some (.cells (fS v r) 59):=by rw[hO,eY];exact dG (gP _ _) _
 have qY:((w.alloc O).alloc Z).heap[gb+1]? =some lA:=by rw[<-hZ];exact lZ _ _ Yq
 have j8:=(h.alloc O).alloc Z;have T1:oV v w ((w.alloc O).alloc Z):=oV.of_below v (eT (eT (fW _ _) _) _);have yU:=aD lO;have zb2:=aD qY;have jI:=aD j8;have Ex:=aD T1;have HO:=aD hO;have HZ:=aD (show Z=.cells #[.int .i64 0,.int .i64 0,.int .i64 0,.int .i64 0,.slice none 0 0,.slice none 0 0,.slice none 0 0,.slice none 0 0] 59 from hZ);have fX:=aD eY;have HD:=aD hd;clear hO hZ eY lO qY j8 T1 hd h;have i0:(0:Int)<=(i:Int):=aC;have i1:(i:Int)<(r.recs.length:Int):=aC
 go_enter Tryz.func96,Tryz.ntmps96
 go_upto_region 1 with fail
 rw[<-HO.o,<-HZ.o,<-fX.o];obtain⟨W1,cZ⟩:=aP ((w.alloc O).alloc Z);have dB:W1.heap.size=gb+2:=by rw[cZ,fX.o];simp
 rw[<-cZ] at yU zb2 jI Ex⊢;have pR:=aD dB;have Mg:gb≠v.gR:=by have:=fX.o;omega
 have Aq:gb≠v.gB:=by have:=fX.o;omega
 have Qg:gb+1≠v.gR:=by have:=fX.o;omega
 have zc5:gb+1≠v.gB:=by have:=fX.o;omega
 clear cZ dB;have k:=aI yU.o;obtain⟨c0,c1,c2,c3,c4,c5,c6⟩:=jI.o.recAt HD.o;have fz:=λj=>jI.o.rc.frozenAt j;have k3:=k 3;have k4:=k 4;have S1:=jI.o.setR (λd=>{d with t:=r.clk}) HD.o (j:=5) aH zph rfl;have mK:=aD S1;clear S1 k
 go_upto_region 2 with fail
 obtain⟨W2,oE⟩:=aP (W1.setCell ⟨v.gR,i*7+5,none⟩ (.int .i64 r.clk));rw[<-oE] at mK⊢;have Bv:(r.recs.modify i λd=>{d with t:=r.clk})[i]? =some {d with t:=r.clk}:=by rw[J0];simp[HD.o]
 have Ya:=aD Bv;have zp0:=aD (mK.o.2.blk yU.o Mg Aq);have zDJ:=aD (mK.o.2.blk zb2.o Qg zc5);clear oE c0 c1 c2 c3 c4 c5 c6 fz k3 k4 Bv;have k4:=aI zp0.o 4;obtain⟨c0,c1,c2,c3,c4,c5,c6⟩:=mK.o.1.recAt Ya.o;have fz:=λj=>mK.o.1.rc.frozenAt j;have S2:=mK.o.1.setR (λd=>{d with e:=e}) Ya.o (j:=6) aH zqG rfl;rw[zhK] at S2;have sV:=aD S2;clear S2
 go_upto_region 3 with fail
 obtain⟨W3,sS⟩:=aP (W2.setCell ⟨v.gR,i*7+6,none⟩ (.string e));rw[<-sS] at sV⊢;have zsJ:(r.recs.modify i λd=>{d with t:=r.clk,e:=e})[i]? =some {d with t:=r.clk,e:=e}:=by rw[J0];simp[HD.o]
 have Yi:=aD zsJ;have Xx:=aD (Ex.o.same (mK.o.2.same sV.o.2));have zbJ:=sV.o.2.blk zp0.o Mg Aq;have zt2:=aD (sV.o.2.blk zDJ.o Qg zc5);have Lq:=aD (show dZ W3 lo v {r with recs:=Dj r i e} from sV.o.1);have zd4:gb+2<=W3.heap.size:=by have:=Xx.o.size;have:=pR.o;have:=mK.o.2.size;have:=sV.o.2.size;omega
 clear sS c0 c1 c2 c3 c4 c5 c6 fz k4 zsJ;have k4:=aI zbJ 4;have k5:=aI zbJ 5;have fz:=eW zbJ;obtain⟨c0,-,-,-,-,-,-⟩:=sV.o.1.recAt Yi.o;have zyN:=aD zbJ;have Kr:=Lq.o.slcW;have U0:=aD Kr;clear zbJ Kr
 go_cut [] from 20 to 29 (λwx=>∃g c,wx.heap[gb]? =some (G8 {v with gW:=g,cW:=c} (kI r i e))/\wx.heap[gb+1]? =some lA/\dZ wx lo {v with gW:=g,cW:=c} (kI r i e)/\oV v w wx/\w.heap.size<=g/\gb+1<g)
 case first=>
  go_region_with (go_at_call 95;refine(zhe lo W3.heap.size r.wait.length v.cW (some ⟨v.gW,0,none⟩) r.wait d.c W3.drew (U0.o.keep (bF _) (λ_ _ _ _=>rfl)) Mn).mono ?_;rintro x w4 ⟨_,rfl,g,cp,rfl,cT,b4⟩;have k0:=(mP b4 (Li zyN.o)).1;have k5:=aI k0 5;have fz:=eW k0;have z4:=iZ k0;have Nx:=aD cT;clear cT)
  all_goals
   go_wp2_with fail
   go_meet
   have qL:=Tm HD.o;have Jt:=Xx.o.size;have hg:W3.heap.size<=g:=(Nx.o.lt g rfl).1;have Ai:∀b,b<W3.heap.size->b≠gb->(w4.setCell ⟨gb,5,none⟩ (.slice (some ⟨g,0,none⟩) (dS r.wait d.c).length cp)).heap[b]? =W3.heap[b]? :=λb hb aU=>(dU w4 _ _ b aU).trans (b4.block b hb);have l3:=Lq.o.lts;have eY:=fX.o;refine⟨g,cp,?_,(Ai _ (iZ zt2.o) aC).trans zt2.o,?_,⟨b4.os.trans Xx.o.os,b4.tape.trans Xx.o.tape,b4.output.trans Xx.o.output,?_,λb hb h1 h2=>(Ai b aC aC).trans (Xx.o.block b hb h1 h2)⟩,aC,aC⟩
   .rw[oH k0,<-qL]
    rw[zAy v r i g cp e]
   .have a:=Lq.o.ap
    have hk:∀b,b<w.heap.size->W3.heap.size<=W3.heap.size:=λ_ _=>bF _;have row:(w4.setCell ⟨gb,5,none⟩ (.slice (some ⟨g,0,none⟩) (dS r.wait d.c).length cp)).ownsRow W3.heap.size 100 2 (.slice (some ⟨g,0,none⟩) (dS r.wait d.c).length cp) (dS r.wait d.c).length (bH (dS r.wait d.c)):=C4 Nx.o (dU w4 _ _ g sU);have zl8:∀{E s n:Nat} {A:Nat} {c:Nat} {xs:List aF},A<gb->W3.ownsRow lo E s (.slice (some ⟨A,0,none⟩) n c) n xs->(w4.setCell ⟨gb,5,none⟩ (.slice (some ⟨g,0,none⟩) (dS r.wait d.c).length cp)).ownsRow lo E s (.slice (some ⟨A,0,none⟩) n c) n xs:=λ{E s n A c xs} hA h=>C4 h (Ai A (h.lt A rfl).2 aC);have l0:=hl;refine⟨zl8 tD Lq.o.rc,?_,zl8 tD Lq.o.bk,zl8 tD Lq.o.lg,by grind⟩;have:=zfC row (base':=lo) aC;rw[<-qL] at this⊢;exact this
   .grind
 case rest=>
  obtain⟨g,c,kb,kr,hR,hT,hg,zAj⟩:=hcut;have zLf:g<gb\/gb+1<g:=.inr zAj;have k:=aI kb;obtain⟨k0,k1,k2,k3,k4,k5,k6,k7⟩:=eN k;have q:=aI kr;obtain⟨q0,q1,q2,q3,q4,q5,q6,q7⟩:=eN q;have qf:=eW kr;have HR:=aD hR;have HT:=aD hT;have HG:=aD hg;have j9:=aD kr;clear hR hT hg kb kr k q;go_wp2;have er:=aI (zag (a0:=.int .i64 (kI r i e).o.ln) (a1:=.int .i64 (kI r i e).o.op) (a2:=.int .i64 (kI r i e).o.pt) (a3:=.int .i64 (kI r i e).clk) (a4:=.slice (some ⟨v.gR,0,none⟩) (kI r i e).recs.length v.cR) (a5:=.slice (some ⟨g,0,none⟩) (kI r i e).wait.length c) (a6:=.slice (some ⟨v.gB,0,none⟩) (kI r i e).back.length v.cB) (a7:=.slice (some ⟨v.gL,0,none⟩) (kI r i e).log.length v.cL) j9.o);have l:=HR.o.lts;have eY:=fX.o;have ziQ:=HG.o;have Ar:=hl;have a:=HR.o.ap;refine bodyPost_ret (v:=.agg (fS {v with gW:=g,cW:=c} (kI r i e))) ?_ rfl ⟨g,c,rfl,HR.o.set8 ?_,HT.o.set8 aC,ziQ⟩
  .unfold gU at er
   simp[results,Tryz.results96,go_sem,er]
  .grind
structure gJ (w0 w:aE)(lo gb k:Nat)(v0 v:fL)(r:bY):Prop where
 ok:dZ w lo v r
 turn:oV v0 w0 w
 moved:xM gb v0 v
 base:gb=w0.heap.size
 blk:w.heap[gb]? =some (.cells (fS v r) 59)
 size:gb+k<=w.heap.size
 kpos:0<k
 aR:v.gR<gb\/gb+k<=v.gR
 aW:v.gW<gb\/gb+k<=v.gW
 aB:v.gB<gb\/gb+k<=v.gB
 aL:v.gL<gb\/gb+k<=v.gL
 lob:lo<=gb
section
variable {w0 w w':aE}{lo gb k:Nat}{v0 v:fL}{r:bY}
def gJ.keep (h:gJ w0 w lo gb k v0 v r)(b:cF w.heap.size w w'):gJ w0 w' lo gb k v0 v r:=
 ⟨h.ok.below b,h.turn.same (oV.of_below v0 b),h.moved,h.base,(b.block _ (iZ h.blk)).trans h.blk,eH h.size b.size,h.kpos,h.aR,h.aW,h.aB,h.aL,h.lob⟩
def gJ.alloc (h:gJ w0 w lo gb k v0 v r)(o:qD):gJ w0 (w.alloc o) lo gb k v0 v r:=h.keep (eT (fW _ _) o)
def gJ.drew (h:gJ w0 w lo gb k v0 v r):gJ w0 w.drew lo gb k v0 v r:=h.keep ⟨rfl,rfl,rfl,bF _,λ_ _=>rfl⟩
def room_R (v:fL)(r:bY)(g c:Nat)(xs:List bR):(fS v r).setIfInBounds 4 (.slice (some ⟨g,0,none⟩) xs.length c)=fS {v with gR:=g,cR:=c} {r with recs:=xs}:=rfl
def room_W (v:fL)(r:bY)(g c:Nat)(xs:List bE):(fS v r).setIfInBounds 5 (.slice (some ⟨g,0,none⟩) xs.length c)=fS {v with gW:=g,cW:=c} {r with wait:=xs}:=rfl
def room_B (v:fL)(r:bY)(g c:Nat)(xs:List bE):(fS v r).setIfInBounds 6 (.slice (some ⟨g,0,none⟩) xs.length c)=fS {v with gB:=g,cB:=c} {r with back:=xs}:=rfl
def room_L (v:fL)(r:bY)(g c:Nat)(xs:List (List UInt8)):(fS v r).setIfInBounds 7 (.slice (some ⟨g,0,none⟩) xs.length c)=fS {v with gL:=g,cL:=c} {r with log:=xs}:=rfl
def zQ {N g:Nat}{o:qD}(hb:w.grownBy w' (some g))(hN:w.heap[N]? =some o)(aU:N≠g):w'.heap[N]? =some o/\N<w'.heap.size:=
 ⟨(hb.block N (iZ hN) zfH).trans hN,jO (iZ hN) hb.size⟩
variable {u:aF}
theorem zur {row:Nat}{b i:Nat}(hg:w.grownBy w' (some row)){x:Nat}(hx:x<w.heap.size)(h1:x≠row)(h2:x≠b):(w'.setCell ⟨b,i,none⟩ u).heap[x]? =w.heap[x]? :=
 (dU w' _ _ x h2).trans (hg.block x hx (by simp;exact h1))
def dZ.setCell {b i:Nat}(h:dZ w lo v r)(hb:b≠v.gR/\b≠v.gW/\b≠v.gB/\b≠v.gL):dZ (w.setCell ⟨b,i,none⟩ u) lo v r:=
 ⟨C4 h.rc (dU w _ _ _ (Ne.symm hb.1)),C4 h.wt (dU w _ _ _ (Ne.symm hb.2.1)),C4 h.bk (dU w _ _ _ (Ne.symm hb.2.2.1)),C4 h.lg (dU w _ _ _ (Ne.symm hb.2.2.2)),h.ap⟩
theorem gJ.appB {m g c:Nat}{x:bE}(h:gJ w0 w lo gb k v0 v r)(hg:w.grownBy w' (some v.gB))(ho:w'.ownsRow lo 100 2 (.slice (some ⟨g,0,none⟩) m c) m (bH r.back++x.cells))(hm:m=r.back.length+1)(hw:g=v.gB\/g=w.heap.size):
 gJ w0 (w'.setCell ⟨gb,6,none⟩ (.slice (some ⟨g,0,none⟩) m c)) lo gb k v0 {v with gB:=g,cB:=c} {r with back:=r.back++[x]}:=by
 have hk:=h.ok.appB hg ho hm aC;have sz:=h.size;have kp:=h.kpos;have aR:=h.aR;have aW:=h.aW;have aB:=h.aB;have aL:=h.aL;have l:=h.ok.lts;have hs:=hg.size;have Oi:=h.base;have kb:=(zQ hg h.blk aC).1;have zaS:g≠gb:=aC;refine⟨hk.setCell sU,?_,⟨h.moved.r,h.moved.w,?_,h.moved.l⟩,h.base,?_,?_,kp,aR,aW,?_,aL,h.lob⟩
 .have t:=h.turn
  have mb:=h.moved.b;refine⟨hg.os.trans t.os,hg.tape.trans t.tape,hg.output.trans t.output,?_,λb hb h1 h2=>?_⟩
  .rw[xA];have:=t.size;omega
  .exact(zur hg zft aC aC).trans (t.block b hb h1 h2)
 .have:=h.moved.b
  simp only;omega
 .rw[oH kb]
  simp_all
 .rw[xA];omega
 .simp only;omega
theorem gJ.appR {m g c:Nat}{x:bR}(h:gJ w0 w lo gb k v0 v r)(hg:w.grownBy w' (some v.gR))(ho:w'.ownsRow lo 50 7 (.slice (some ⟨g,0,none⟩) m c) m (recs r.recs++x.cells))(hm:m=r.recs.length+1)(hw:g=v.gR\/g=w.heap.size):
 gJ w0 (w'.setCell ⟨gb,4,none⟩ (.slice (some ⟨g,0,none⟩) m c)) lo gb k v0 {v with gR:=g,cR:=c} {r with recs:=r.recs++[x]}:=by
 have hk:=h.ok.appR hg ho hm aC;have sz:=h.size;have kp:=h.kpos;have aR:=h.aR;have aW:=h.aW;have aB:=h.aB;have aL:=h.aL;have l:=h.ok.lts;have hs:=hg.size;have Oi:=h.base;have kb:=(zQ hg h.blk aC).1;have zaS:g≠gb:=aC;refine⟨hk.setCell sU,?_,⟨?_,h.moved.w,h.moved.b,h.moved.l⟩,h.base,?_,?_,kp,?_,aW,aB,aL,h.lob⟩
 .have t:=h.turn
  have mb:=h.moved.r;refine⟨hg.os.trans t.os,hg.tape.trans t.tape,hg.output.trans t.output,?_,λb hb h1 h2=>?_⟩
  .rw[xA];have:=t.size;omega
  .exact(zur hg zft aC aC).trans (t.block b hb h1 h2)
 .have:=h.moved.r
  simp only;omega
 .rw[oH kb]
  simp_all
 .rw[xA];omega
 .simp only;omega
variable {xs:List bE}
theorem gJ.setW {g c n:Nat}(h:gJ w0 w lo gb k v0 v r)(b:cF n w w')(ho:w'.ownsRow n 100 2 (.slice (some ⟨g,0,none⟩) xs.length c) xs.length (bH xs))(hn:n=w.heap.size):
 gJ w0 (w'.setCell ⟨gb,5,none⟩ (.slice (some ⟨g,0,none⟩) xs.length c)) lo gb k v0 {v with gW:=g,cW:=c} {r with wait:=xs}:=by
 subst hn;have hg:w.heap.size<=g:=(ho.lt g rfl).1;have sz:=h.size;have l:=h.ok.lts;have Oi:=h.base;have lob:=h.lob;have hk:=h.ok.newW (w':=w') (λx hx=>b.block x hx) (zfC ho aC) rfl hg;have kp:=h.kpos;have aR:=h.aR;have aW:=h.aW;have aB:=h.aB;have aL:=h.aL;have hs:=b.size;have kb:=(mP b h.blk).1;refine⟨hk.setCell sU,?_,⟨h.moved.r,.inr L2,h.moved.b,h.moved.l⟩,h.base,?_,?_,kp,aR,.inr L2,aB,aL,h.lob⟩
 .have t:=h.turn
  refine⟨b.os.trans t.os,b.tape.trans t.tape,b.output.trans t.output,?_,λy hy h1 h2=>?_⟩
  .rw[xA];have:=t.size;omega
  .exact((dU w' _ _ y (by show y≠gb;omega)).trans (b.block y zft)).trans (t.block y hy h1 h2)
 .rw[oH kb]
  rw[room_W v r g c xs]
 .rw[xA];omega
theorem gJ.setB {g c n:Nat}(h:gJ w0 w lo gb k v0 v r)(b:cF n w w')(ho:w'.ownsRow n 100 2 (.slice (some ⟨g,0,none⟩) xs.length c) xs.length (bH xs))(hn:n=w.heap.size):
 gJ w0 (w'.setCell ⟨gb,6,none⟩ (.slice (some ⟨g,0,none⟩) xs.length c)) lo gb k v0 {v with gB:=g,cB:=c} {r with back:=xs}:=by
 subst hn;have hg:w.heap.size<=g:=(ho.lt g rfl).1;have sz:=h.size;have l:=h.ok.lts;have Oi:=h.base;have lob:=h.lob;have hk:=h.ok.newB (w':=w') (λx hx=>b.block x hx) (zfC ho aC) rfl hg;have kp:=h.kpos;have aR:=h.aR;have aW:=h.aW;have aB:=h.aB;have aL:=h.aL;have hs:=b.size;have kb:=(mP b h.blk).1;refine⟨hk.setCell sU,?_,⟨h.moved.r,h.moved.w,.inr L2,h.moved.l⟩,h.base,?_,?_,kp,aR,aW,.inr L2,aL,h.lob⟩
 .have t:=h.turn
  refine⟨b.os.trans t.os,b.tape.trans t.tape,b.output.trans t.output,?_,λy hy h1 h2=>?_⟩
  .rw[xA];have:=t.size;omega
  .exact((dU w' _ _ y (by show y≠gb;omega)).trans (b.block y zft)).trans (t.block y hy h1 h2)
 .rw[oH kb]
  rw[room_B v r g c xs]
 .rw[xA];omega
theorem gJ.setR {i j:Nat}{d:bR}(f:bR->bR)(h:gJ w0 w lo gb k v0 v r)(hd:r.recs[i]? =some d)(hj:j<7)(hs:∀k,k<7->k≠j->(f d).cells[k]? =d.cells[k]?)(hv:(f d).cells[j]? =some u):
 gJ w0 (w.setCell ⟨v.gR,i*7+j,none⟩ u) lo gb k v0 v {r with recs:=r.recs.modify i f}:=by
 obtain⟨h1,h2⟩:=h.ok.setR f hd hj hs hv;have l:=h.ok.lts;have Oi:=h.base;have mr:=h.moved.r;have kp:=h.kpos;have aR:=h.aR;have sz:=h.size;refine⟨h1,?_,h.moved,h.base,?_,by simp_all,h.kpos,h.aR,h.aW,h.aB,h.aL,h.lob⟩
 .have t:=h.turn
  refine⟨t.os,t.tape,t.output,by rw[xA];exact t.size,λy hy e1 e2=>?_⟩;exact(dU w _ _ y (by show y≠v.gR;omega)).trans (t.block y hy e1 e2)
 .have e:(w.setCell ⟨v.gR,i*7+j,none⟩ u).heap[gb]? =w.heap[gb]? :=dU w _ _ gb (by show gb≠v.gR;omega)
  rw[e,h.blk];simp_all
theorem gJ.turned {n:Nat}{v':fL}{r':bY}(h:gJ w0 w lo gb k v0 v r)(ho:dZ w' lo v' r')(t:oV v w w')(m:xM n v v')(hn:n=w.heap.size):
 dZ w' lo v' r'/\oV v0 w0 w'/\xM gb v0 v'/\w'.heap[gb]? =some (.cells (fS v r) 59):=by
 have Oi:=h.base;have sz:=h.size;have kp:=h.kpos;have aR:=h.aR;have aB:=h.aB;exact⟨ho,h.turn.trans t h.moved aC,h.moved.trans m aC,t.blk h.blk aC aC⟩
theorem gJ.done {b:Nat}{a0 a1 a2 a3 a4 a5 a6 a7:aF}(h:gJ w0 w lo gb k v0 v r)(hb:gb<=b/\b<gb+k):dZ (gU w b a0 a1 a2 a3 a4 a5 a6 a7) lo v r/\oV v0 w0 (gU w b a0 a1 a2 a3 a4 a5 a6 a7)/\xM w0.heap.size v0 v:=by
 have aR:=h.aR;have aW:=h.aW;have aB:=h.aB;have aL:=h.aL;have Oi:=h.base;exact⟨h.ok.set8 aC,h.turn.set8 aC,Oi▸h.moved⟩
theorem Bo {a:bC}{v:aF}(h:w.cell? a=some v)(o:qD):(w.alloc o).cell? a=some v:=(aE.cell?_alloc_some w a o (by rw[h];rfl)).trans h
end
def tJ {z0 z1 z2 z3 z4 z5 z6 z7:aF}(v:fL)(r:bY)(h:w.heap[b]? =some (.cells #[z0,z1,z2,z3,z4,z5,z6,z7] T)):
 (gU w b (.int .i64 r.o.ln) (.int .i64 r.o.op) (.int .i64 r.o.pt) (.int .i64 r.clk) (v.sR r) (v.sW r) (v.sB r) (v.sL r)).heap[b]? =some (.cells #[.int .i64 r.o.ln,.int .i64 r.o.op,.int .i64 r.o.pt,.int .i64 r.clk,v.sR r,v.sW r,v.sB r,v.sL r] T):=zag h
theorem zdP (h:dZ w lo v r)(eF:lo<=w.heap.size):∃(gb:Nat) (O Z:qD),qT (gb=w.heap.size)/\qT (O=.cells (fS v r) 59)/\qT (Z=.cells #[.int .i64 0,.int .i64 0,.int .i64 0,.int .i64 0,.slice none 0 0,.slice none 0 0,.slice none 0 0,.slice none 0 0] 59)/\
 qT (gJ w ((w.alloc O).alloc Z) lo gb 2 v v r)/\qT (((w.alloc O).alloc Z).heap[gb+1]? =some lA)/\qT (((w.alloc O).alloc Z).heap.size=gb+2)/\qT (v.gR<gb/\v.gW<gb/\v.gB<gb/\v.gL<gb):=by
 obtain⟨gb,eY⟩:=aP w.heap.size;have hl:=h.lts;obtain⟨O,hO⟩:=aP (.cells (fS v r) 59:qD);obtain⟨Z,hZ⟩:=aP (lA:qD);have lO:((w.alloc O).alloc Z).heap[gb]? =some (G8 v r):=by rw[hO,eY];exact dG (gP _ _) _
 have qY:((w.alloc O).alloc Z).heap[gb+1]? =some lA:=by rw[<-hZ];exact lZ _ _ Yq
 have dB:((w.alloc O).alloc Z).heap.size=gb+2:=by rw[eY];simp
 have fB:=aD (show gJ w ((w.alloc O).alloc Z) lo gb 2 v v r from⟨(h.alloc O).alloc Z,oV.of_below v (eT (eT (fW _ _) _) _),xM.refl _ _,eY,lO,aC,aC,.inl aC,.inl aC,.inl aC,.inl aC,aC⟩);have pR:=aD dB
 grind
theorem dec_big {u:Nat}(h:9<u):Vy u=Vy (u/10)++[zdq (48+u%10)]:=by
 rw[Vy,dif_neg aC]
theorem zaC (k:Nat)(hk:k<=100000000)(w:aE):
 gH aK 94 #[.int .i64 k] w λe w'=>e=.returned (.string ⟨(Lh k).toArray⟩)/\cF w.heap.size w w':=by
 have hI:=aD (Lib.itoa_nonneg k)
 go_enter Tryz.func94,Tryz.ntmps94
 go_wp2
 go_loopw [0,3] (λa s wr=>∃(u:Nat) (l:List UInt8),a=.int .i64 u/\s=.string ⟨l.toArray⟩/\u<=100000000/\Vy u++l=Vy k/\cF w.heap.size w wr) (λa _ _=>(intOf a).toNat)
 case atStart=>exact⟨k,[],rfl,rfl,hk,List.append_nil _,fW _ _⟩
 case round=>
  obtain⟨u,l,rfl,rfl,hu,hl,B⟩:=hrel;have HL:=aD hl;have Jo:l.length<=20:=by have:=congrArg List.length HL.o;rw[jH] at this;have:=Un (k:=k) aC;omega
  by_cases aS:9<u
  .have zk6:=cv1 wr (48+u%10) aC
   rw[show((48+u%10:Nat):Int)=48+(u:Int)%10 by omega] at zk6;have HD:=aD (dec_big aS);go_wp2;go_roundw
   case rel=>exact⟨u/10,zdq (48+u%10)::l,by first|rfl|(congr 1;omega),by rw[Mx];simp,aC,by rw[<-HL.o,HD.o];simp,eT B _⟩
   case measure=>simp[intOf];omega
  .have zk6:=cv1 wr (48+u) aC
   rw[show((48+u:Nat):Int)=48+(u:Int) by omega] at zk6;have HT:=aD (show(⟨[zdq (48+u)].toArray⟩:ByteArray)++⟨l.toArray⟩=⟨(Lh k).toArray⟩ by rw[Mx,hI.o,<-HL.o,Lib.decDigits_one aC];simp);go_wp2;go_ret;exact⟨congrArg (λx=>zkG (aF.string x)) (by rw[<-HT.o];simp),eT B _⟩
end Go.Proofs.YtfcjiloojkjaeaaGreatDoor
namespace Go.Tt
abbrev Pr:=Nat->Nat->Prop
def Pr.le (R R':Pr):Prop:=∀a b,R a b->R' a b
def Pr.le.refl (R:Pr):R.le R:=λ_ _ h=>h
variable {R R':Pr}
def Pr.le.trans {Pz:Pr}(h:R.le R')(h':R'.le Pz):R.le Pz:=λa b x=>h' a b (h a b x)
def Pr.add (R:Pr)(n n':Nat):Pr:=λa b=>R a b\/(a=n/\b=n')
def Pr.le_add (R:Pr)(n n':Nat):R.le (R.add n n'):=λ_ _ h=>.inl h
inductive fR (R:Pr):bC->bC->Prop
 |mk {b b' o:Nat} {s:Option Nat}:R b b'->fR R ⟨b,o,s⟩ ⟨b',o,s⟩
inductive xX (R:Pr):Option bC->Option bC->Prop
 |none:xX R none none
 |some {a a':bC}:fR R a a'->xX R (some a) (some a')
inductive Ft (R:Pr):Option Nat->Option Nat->Prop
 |none:Ft R none none
 |some {a a':Nat}:R a a'->Ft R (some a) (some a')
def Pr.or (R K:Pr):Pr:=λa b=>R a b\/K a b
variable {K:Pr}
def Pr.or_mono (h:R.le R'):(R.or K).le (R'.or K):=λa b x=>x.imp (h a b) id
def HidV:aF->Prop
 | .agg _| .tuple _| .bool _| .nilIface=>False
 |_=>True
inductive VR (S:aQ->Prop)(K R:Pr):aF->aF->Prop
 |bool (b:Bool):VR S K R (.bool b) (.bool b)
 |int (k:C7) (n:Int):VR S K R (.int k n) (.int k n)
 |string (s:ByteArray):VR S K R (.string s) (.string s)
 |nilFunc:VR S K R .nilFunc .nilFunc
 |nilIface:VR S K R .nilIface .nilIface
 |pointer {a a':Option bC}:xX R a a'->VR S K R (.pointer a) (.pointer a')
 |slice {a a':Option bC} {n c:Nat}:xX R a a'->VR S K R (.slice a n c) (.slice a' n c)
 |map {a a':Option Nat}:Ft R a a'->VR S K R (.map a) (.map a')
 |chan {a a':Option Nat}:Ft (R.or K) a a'->VR S K R (.chan a) (.chan a')
 |func {f:aQ} {xs b8 ys Yh:Array aF}:S f->xs.size=b8.size->(∀(i:Nat) (v v':aF),xs[i]? =some v->b8[i]? =some v'->VR S K R v v')->
  ys.size=Yh.size->(∀(i:Nat) (v v':aF),ys[i]? =some v->Yh[i]? =some v'->VR S K R v v')->VR S K R (.func (.func f) xs ys) (.func (.func f) b8 Yh)
 |iface {t:aM} {v v':aF}:VR S K R v v'->VR S K R (.iface t v) (.iface t v')
 |agg {xs b8:Array aF}:xs.size=b8.size->(∀(i:Nat) (v v':aF),xs[i]? =some v->b8[i]? =some v'->VR S K R v v')->VR S K R (.agg xs) (.agg b8)
 |tuple {xs b8:Array aF}:xs.size=b8.size->(∀(i:Nat) (v v':aF),xs[i]? =some v->b8[i]? =some v'->VR S K R v v')->VR S K R (.tuple xs) (.tuple b8)
 |junk {v':aF}:HidV v'->VR S K R .nilFunc v'
def bM (S:aQ->Prop)(K R:Pr)(xs b8:Array aF):Prop:=xs.size=b8.size/\∀(i:Nat) (v v':aF),xs[i]? =some v->b8[i]? =some v'->VR S K R v v'
section
variable {S:aQ->Prop}{K R R':Pr}
theorem fR.mono (h:R.le R'){a a':bC}(x:fR R a a'):fR R' a a':=by cases x with|mk x=>exact .mk (h _ _ x)
theorem xX.mono (h:R.le R'){a a':Option bC}(x:xX R a a'):xX R' a a':=by cases x with|none=>exact .none|some x=>exact .some (x.mono h)
theorem Ft.mono (h:R.le R'){a a':Option Nat}(x:Ft R a a'):Ft R' a a':=by cases x with|none=>exact .none|some x=>exact .some (h _ _ x)
variable {v v':aF}
theorem VR.mono (h:R.le R')(x:VR S K R v v'):VR S K R' v v':=by
 induction x with
 |bool b=>exact .bool b
 |int k n=>exact .int k n
 |string s=>exact .string s
 |nilFunc=>exact .nilFunc
 |nilIface=>exact .nilIface
 |pointer x=>exact .pointer (x.mono h)
 |slice x=>exact .slice (x.mono h)
 |map x=>exact .map (x.mono h)
 |chan x=>exact .chan (x.mono (Pr.or_mono h))
 |func s e1 _ e2 _ i1 i2=>exact .func s e1 i1 e2 i2
 |iface _ ih=>exact .iface ih
 |agg e _ ih=>exact .agg e ih
 |tuple e _ ih=>exact .tuple e ih
 |junk h=>exact .junk h
variable {xs b8:Array aF}
def bM.mono (h:R.le R')(x:bM S K R xs b8):bM S K R' xs b8:=⟨x.1,λi v v' h1 h2=>(x.2 i v v' h1 h2).mono h⟩
variable {i:Nat}
theorem bM.get (x:bM S K R xs b8)(h:xs[i]? =some v):∃v',b8[i]? =some v'/\VR S K R v v':=by
 have hi:i<b8.size:=by rw[<-x.1];exact(eB.1 h).1
 exact⟨b8[i],pS hi,x.2 i _ _ h (pS hi)⟩
theorem bM.none (x:bM S K R xs b8)(h:xs[i]? =none):b8[i]? =none:=by
 rw[zuS] at h⊢;rw[<-x.1];exact h
theorem bM.getD (x:bM S K R xs b8)(i:Nat){d d':aF}(hd:VR S K R d d'):VR S K R (xs.getD i d) (b8.getD i d'):=by
 rw[xG,xG]
 cases h:xs[i]? with
 |none=>rw[x.none h];exact hd
 |some v=>obtain⟨v',h',hv⟩:=x.get h;rw[h'];exact hv
theorem bM.set (x:bM S K R xs b8)(i:Nat)(hv:VR S K R v v'):bM S K R (xs.setIfInBounds i v) (b8.setIfInBounds i v'):=by
 refine⟨by simp[x.1],λj u u' h h'=>?_⟩;by_cases e:i=j
 .grind
 .rw[tL e] at h h'
  exact x.2 j u u' h h'
theorem bM.push (x:bM S K R xs b8)(hv:VR S K R v v'):bM S K R (xs.push v) (b8.push v'):=by
 refine⟨by simp[x.1],λj u u' h h'=>?_⟩;rw[zlr] at h h';rw[<-x.1] at h';split at h
 .simp_all
 .rename_i e;rw[if_neg e] at h';exact x.2 j u u' h h'
theorem bM.append {ys Yh:Array aF}(x:bM S K R xs b8)(y:bM S K R ys Yh):bM S K R (xs++ys) (b8++Yh):=by
 refine⟨by simp[x.1,y.1],λj u u' h h'=>?_⟩;rw[Array.getElem?_append] at h h';rw[<-x.1] at h';split at h
 .rename_i e;rw[if_pos e] at h';exact x.2 j u u' h h'
 .rename_i e;rw[if_neg e] at h';exact y.2 _ u u' h h'
theorem bM.empty:bM S K R #[] #[]:=⟨rfl,λi v v' h=>by simp at h⟩
def bM.one (h:VR S K R v v'):bM S K R #[v] #[v']:=bM.empty.push h
theorem bM.extract (x:bM S K R xs b8)(i j:Nat):bM S K R (xs.extract i j) (b8.extract i j):=by
 refine⟨by simp[x.1],λk u u' h h'=>?_⟩;rw[Array.getElem?_extract] at h h';split at h
 .rename_i e;rw[<-x.1,if_pos e] at h';exact x.2 _ u u' h h'
 .cases h
def VR.agg' (x:bM S K R xs b8):VR S K R (.agg xs) (.agg b8):=.agg x.1 x.2
def VR.tuple' (x:bM S K R xs b8):VR S K R (.tuple xs) (.tuple b8):=.tuple x.1 x.2
theorem VR.cells (x:VR S K R v v'):bM S K R v.cells v'.cells:=by
 cases x with
 |agg e h=>exact⟨e,h⟩
 |bool b=>exact .one (.bool b)
 |int k n=>exact .one (.int k n)
 |string s=>exact .one (.string s)
 |nilFunc=>exact .one .nilFunc
 |nilIface=>exact .one .nilIface
 |pointer x=>exact .one (.pointer x)
 |slice x=>exact .one (.slice x)
 |map x=>exact .one (.map x)
 |chan x=>exact .one (.chan x)
 |func s e1 h1 e2 h2=>exact .one (.func s e1 h1 e2 h2)
 |iface x=>exact .one (.iface x)
 |tuple e h=>exact .one (.tuple e h)
 |junk h=>
  have e:v'.cells=#[v']:=by cases v'<;>first|rfl|exact h.elim
  rw[e];exact .one (.junk h)
end
structure dM where
 c:bZ
 fs:Array Func
 op:aQ->Bool
 lw:aQ->Bool
 gs:aQ->Bool
 dy:Bool
abbrev dM.g (P:dM):Program:={P.c with funcs:=P.fs}
abbrev dM.underlying (P:dM)(t:aM):=P.c.underlying t
abbrev dM.info? (P:dM)(t:aM):=P.c.info? t
abbrev dM.globals (P:dM):=P.c.globals
def Bp (p:bZ)(g:Nat):Bool:=match p.globals[g]? with|some x=>(match p.underlying x.type with|some (.array _ _)=>true|_=>false)|none=>false
structure Gp where
 n:Nat
 tab:Nat->Bool
abbrev pK (p:bZ):Gp:=⟨p.globals.size,Bp p⟩
abbrev dM.gp (P:dM):Gp:=pK P.c
def dM.underlying_g (P:dM)(t:aM):P.g.underlying t=P.c.underlying t:=rfl
def dM.info_g (P:dM)(t:aM):P.g.info? t=P.c.info? t:=rfl
def dM.cells_g (P:dM)(t:aM):P.g.cellsOf t=P.c.cellsOf t:=rfl
def dM.bytes_g (P:dM)(t:aM):P.g.bytesOf t=P.c.bytesOf t:=rfl
def dM.depth_g (P:dM):P.g.depth=P.c.depth:=rfl
theorem dM.byteOfCell_g (P:dM):∀(d:Nat) (t:aM) (o:Nat),byteOfCell P.g d t o=byteOfCell P.c d t o:=by
 intro d
 induction d with
 |zero=>intro t o;rfl
 |succ d ih=>
  intro t o;unfold byteOfCell;rw[P.underlying_g];simp only[ih,P.cells_g,P.bytes_g];rfl
def dM.globals_g (P:dM):P.g.globals=P.c.globals:=rfl
inductive Cw (S:aQ->Prop)(K R:Pr):pJ->pJ->Prop
 |mk {k k' v v':aF} {born:Nat}:VR S K R k k'->VR S K R v v'->Cw S K R ⟨k,v,born⟩ ⟨k',v',born⟩
def rT (S:aQ->Prop)(K R:Pr)(es eZ:Array pJ):Prop:=es.size=eZ.size/\∀(i:Nat) (e e':pJ),es[i]? =some e->eZ[i]? =some e'->Cw S K R e e'
def Kk (fz:Nat×Nat)(o:Nat):Prop:=fz.1<=o/\o<fz.2
inductive oS (S:aQ->Prop)(K R:Pr):qD->qD->Prop
 |cells {c c':Array aF} {T:aM} {fz Iw:Nat×Nat}:bM S K R c c'->(∀o,Kk Iw o->Kk fz o)->oS S K R (.cells c T fz) (.cells c' T Iw)
 |map {es eZ:Array pJ} {cl:Nat}:rT S K R es eZ->oS S K R (.map es cl) (.map eZ cl)
 |chan {cap s r:Nat} {Kt zoz:Array aF} {closed tm:Bool}:bM S K R Kt zoz->oS S K R (.chan cap Kt closed s r tm) (.chan cap zoz closed s r tm)
 |stringIter (s:ByteArray) (pos:Nat):oS S K R (.stringIter s pos) (.stringIter s pos)
 |number {a a':bC} {lost:Bool}:fR R a a'->oS S K R (.number a lost) (.number a' lost)
 |mapIter {m m':Option Nat} {since stepped:Nat} {seen:Array Nat}:Ft R m m'->oS S K R (.mapIter m since seen stepped) (.mapIter m' since seen stepped)
section
variable {S:aQ->Prop}{K R R':Pr}
theorem Cw.mono (h:R.le R'){e e':pJ}(x:Cw S K R e e'):Cw S K R' e e':=by cases x with|mk a b=>exact .mk (a.mono h) (b.mono h)
def rT.mono (h:R.le R'){e e':Array pJ}(x:rT S K R e e'):rT S K R' e e':=⟨x.1,λi a b h1 h2=>(x.2 i a b h1 h2).mono h⟩
theorem oS.mono (h:R.le R'){o o':qD}(x:oS S K R o o'):oS S K R' o o':=by
 cases x with
 |cells a b=>exact .cells (a.mono h) b
 |map a=>exact .map (a.mono h)
 |chan a=>exact .chan (a.mono h)
 |stringIter s p=>exact .stringIter s p
 |number a=>exact .number (a.mono h)
 |mapIter a=>exact .mapIter (a.mono h)
end
def pF:Obj:=.cells #[] 0
structure uJ (P:dM)(K R:Pr):Prop where
 inj:∀a b c,R.or K a b->R.or K a c->b=c
 inj':∀a b c,R.or K a c->R.or K b c->a=b
 low:∀a b,R a b->(a<P.globals.size↔b<P.globals.size)
 tb:∀g,Bp P.c g=true->R g g
structure Fresh (P:dM)(K R:Pr)(n n':Nat):Prop where
 l:∀b,¬R.or K n b
 r:∀a,¬R.or K a n'
 low:P.globals.size<=n/\P.globals.size<=n'
structure yQ (P:dM)(K R R':Pr):Prop where
 le:R.le R'
 ok:uJ P K R->uJ P K R'
variable {P:dM}
def yQ.refl (R:Pr):yQ P K R R:=⟨.refl R,id⟩
def yQ.trans {Pz:Pr}(h:yQ P K R R')(h':yQ P K R' Pz):yQ P K R Pz:=⟨h.le.trans h'.le,λx=>h'.ok (h.ok x)⟩
theorem yQ.add {n n':Nat}(f:Fresh P K R n n'):yQ P K R (R.add n n'):=by
 refine⟨Pr.le_add R n n',λh=>⟨?_,?_,?_,λg hg=>.inl (h.tb g hg)⟩⟩
 .rintro a b c ((x|⟨rfl,rfl⟩)|x) ((y|⟨e,rfl⟩)|y)
  .exact h.inj a b c (.inl x) (.inl y)
  .exact absurd (.inl (e▸x)) (f.l _)
  .exact h.inj a b c (.inl x) (.inr y)
  .exact absurd (.inl y) (f.l _)
  .rfl
  .exact absurd (.inr y) (f.l _)
  .exact h.inj a b c (.inr x) (.inl y)
  .exact absurd (.inr (e▸x)) (f.l _)
  .exact h.inj a b c (.inr x) (.inr y)
 .rintro a b c ((x|⟨rfl,rfl⟩)|x) ((y|⟨rfl,e⟩)|y)
  .exact h.inj' a b c (.inl x) (.inl y)
  .exact absurd (.inl (e▸x)) (f.r _)
  .exact h.inj' a b c (.inl x) (.inr y)
  .exact absurd (.inl y) (f.r _)
  .rfl
  .exact absurd (.inr y) (f.r _)
  .exact h.inj' a b c (.inr x) (.inl y)
  .exact absurd (.inr (e▸x)) (f.r _)
  .exact h.inj' a b c (.inr x) (.inr y)
 .rintro a b (x|⟨rfl,rfl⟩)
  .exact h.low a b x
  .have:=f.low;omega
def V7:Halt->Prop
 | .panic _| .stuck _=>True
 | .unsupported (.initOrder _)=>False
 | .unsupported _=>True
 |_=>False
def Ct (w:aE):Prop:=∀(b:Nat) (c:Array aF) (e:aM),w.heap[b]?≠some (.pending c e)
def fA (P:dM){α:Type}(s:cY α):Prop:=∀w,Ct w->∃h w',s.run P.g w=.halt h w'/\V7 h
variable {α:Type}{w:aE}
theorem fA.no {s:cY α}(h:fA P s)(hw:Ct w)(x:α)(w':aE):s.run P.g w≠ .ok x w':=by
 obtain⟨_,_,e,_⟩:=h w hw;rw[e];simp
variable {β:Type}
theorem fA.bind {s:cY α}(h:fA P s)(f:α->cY β):fA P (s.bind f):=by
 intro w hw;obtain⟨y,w1,e,ht⟩:=h w hw;exact⟨y,w1,by rw[uR,e];rfl,ht⟩
def Jl (P:dM)(S:aQ->Prop)(K:Pr){α β:Type}(A:Pr->α->β->Prop):cY α->Pr->cY β->Prop
 | .pure a,R,s'=>∃b,s'=.pure b/\A R a b
 | .load m a k,R,s'=>m=.plain/\∃a' k',s'=.load .plain a' k'/\fR R a a'/\∀v v',VR S K R v v'->fA P (k v)\/Jl P S K A (k v) R (k' v')
 | .store m a v k,R,s'=>m=.plain/\∃a' v' k',s'=.store .plain a' v' k'/\fR R a a'/\VR S K R v v'/\(fA P k\/Jl P S K A k R k')
 | .new o k,R,s'=>∃o' k',s'=.new o' k'/\oS S K R o o'/\∀n n',Fresh P K R n n'->fA P (k n)\/Jl P S K A (k n) (R.add n n') (k' n')
 | .shape r k,R,s'=>∃r' k',s'=.shape r' k'/\R r r'/\∀x,fA P (k x)\/Jl P S K A (k x) R (k' x)
 | .freeze _ _ _,_,_=>False
 | .frozen a k,R,s'=>∃a' k',s'=.frozen a' k'/\∀x x',fA P (k x)\/Jl P S K A (k x) R (k' x')
 | .getObj r k,R,s'=>∃r' k',s'=.getObj r' k'/\R.or K r r'/\∀o o',oS S K R o o'->fA P (k o)\/Jl P S K A (k o) R (k' o')
 | .setObj r o k,R,s'=>∃r' o' k',s'=.setObj r' o' k'/\R.or K r r'/\oS S K R o o'/\(fA P k\/Jl P S K A k R k')
 | .choose q k,R,s'=>∃k',s'=.choose q k'/\∀n,fA P (k n)\/Jl P S K A (k n) R (k' n)
 | .sys _ _,_,_=>False
 | .program k,R,s'=>∃k',s'=.program k'/\(fA P (k P.g)\/Jl P S K A (k P.g) R (k' P.c))
 | .mark m k,R,s'=>m=.noRoom/\∃k',s'=.mark .noRoom k'/\(fA P k\/Jl P S K A k R k')
 | .halt _,_,_=>False
def aG (P:dM)(S:aQ->Prop)(K:Pr){α β:Type}(A:Pr->α->β->Prop)(s:cY α)(R:Pr)(s':cY β):Prop:=fA P s\/Jl P S K A s R s'
section
variable {P:dM}{S:aQ->Prop}{K:Pr}{α β γ δ:Type}{A:Pr->α->β->Prop}{B:Pr->γ->δ->Prop}
def aG.pure {R:Pr}{a:α}{b:β}(h:A R a b):aG P S K A (.pure a) R (.pure b):=.inr ⟨b,rfl,h⟩
def fA.halt {h:Halt}(ht:V7 h):fA P (.halt h:cY α):=λw _=>⟨h,w,rfl,ht⟩
theorem aG.bind {s:cY α}:∀{R:Pr} {s':cY β} {f:α->cY γ} {f':β->cY δ},aG P S K A s R s'->(∀R',yQ P K R R'->∀a b,A R' a b->aG P S K B (f a) R' (f' b))->aG P S K B (s.bind f) R (s'.bind f'):=by
 induction s with
 |pure a=>
  rintro R s' f f' (hn|⟨b,rfl,h⟩) hf
  .exact .inl (hn.bind _)
  .exact hf R (.refl R) a b h
 |load m a k ih=>
  rintro R s' f f' (hn|⟨hm,a',k',rfl,ha,hk⟩) hf
  .exact .inl (hn.bind _)
  .exact .inr ⟨hm,a',_,rfl,ha,λv v' hv=>ih v (hk v v' hv) hf⟩
 |store m a v k ih=>
  rintro R s' f f' (hn|⟨hm,a',v',k',rfl,ha,hv,hk⟩) hf
  .exact .inl (hn.bind _)
  .exact .inr ⟨hm,a',v',_,rfl,ha,hv,ih hk hf⟩
 |new o k ih=>
  rintro R s' f f' (hn|⟨o',k',rfl,ho,hk⟩) hf
  .exact .inl (hn.bind _)
  .exact .inr ⟨o',_,rfl,ho,λn n' fZ=>ih n (hk n n' fZ) λR' hR a b h=>hf R' ((yQ.add fZ).trans hR) a b h⟩
 |shape r k ih=>
  rintro R s' f f' (hn|⟨r',k',rfl,hr,hk⟩) hf
  .exact .inl (hn.bind _)
  .exact .inr ⟨r',_,rfl,hr,λx=>ih x (hk x) hf⟩
 |freeze a n k ih=>
  rintro R s' f f' (hn|h) hf
  .exact .inl (hn.bind _)
  .exact h.elim
 |frozen a k ih=>
  rintro R s' f f' (hn|⟨r',k',rfl,hk⟩) hf
  .exact .inl (hn.bind _)
  .exact .inr ⟨r',_,rfl,λx x'=>ih x (hk x x') hf⟩
 |getObj r k ih=>
  rintro R s' f f' (hn|⟨r',k',rfl,hr,hk⟩) hf
  .exact .inl (hn.bind _)
  .exact .inr ⟨r',_,rfl,hr,λo o' ho=>ih o (hk o o' ho) hf⟩
 |setObj r o k ih=>
  rintro R s' f f' (hn|⟨r',o',k',rfl,hr,ho,hk⟩) hf
  .exact .inl (hn.bind _)
  .exact .inr ⟨r',o',_,rfl,hr,ho,ih hk hf⟩
 |choose q k ih=>
  rintro R s' f f' (hn|⟨k',rfl,hk⟩) hf
  .exact .inl (hn.bind _)
  .exact .inr ⟨_,rfl,λn=>ih n (hk n) hf⟩
 |sys c k ih=>
  rintro R s' f f' (hn|h) hf
  .exact .inl (hn.bind _)
  .exact h.elim
 |program k ih=>
  rintro R s' f f' (hn|⟨k',rfl,hk⟩) hf
  .exact .inl (hn.bind _)
  .exact .inr ⟨_,rfl,ih P.g hk hf⟩
 |mark m k ih=>
  rintro R s' f f' (hn|⟨rfl,k',rfl,hk⟩) hf
  .exact .inl (hn.bind _)
  .exact .inr ⟨rfl,_,rfl,ih hk hf⟩
 |halt h=>
  rintro R s' f f' (hn|hx) _
  .exact .inl (hn.bind _)
  .exact hx.elim
theorem aG.mono {A':Pr->α->β->Prop}{s:cY α}:∀{R:Pr} {s':cY β},aG P S K A s R s'->(∀R',yQ P K R R'->∀a b,A R' a b->A' R' a b)->aG P S K A' s R s':=by
 induction s with
 |pure a=>
  rintro R s' (hn|⟨b,rfl,h⟩) hf
  .exact .inl hn
  .exact .inr ⟨b,rfl,hf R (.refl R) a b h⟩
 |load m a k ih=>
  rintro R s' (hn|⟨hm,a',k',rfl,ha,hk⟩) hf
  .exact .inl hn
  .exact .inr ⟨hm,a',_,rfl,ha,λv v' hv=>ih v (hk v v' hv) hf⟩
 |store m a v k ih=>
  rintro R s' (hn|⟨hm,a',v',k',rfl,ha,hv,hk⟩) hf
  .exact .inl hn
  .exact .inr ⟨hm,a',v',_,rfl,ha,hv,ih hk hf⟩
 |new o k ih=>
  rintro R s' (hn|⟨o',k',rfl,ho,hk⟩) hf
  .exact .inl hn
  .exact .inr ⟨o',_,rfl,ho,λn n' fZ=>ih n (hk n n' fZ) λR' hR a b h=>hf R' ((yQ.add fZ).trans hR) a b h⟩
 |shape r k ih=>
  rintro R s' (hn|⟨r',k',rfl,hr,hk⟩) hf
  .exact .inl hn
  .exact .inr ⟨r',_,rfl,hr,λx=>ih x (hk x) hf⟩
 |freeze a n k ih=>
  rintro R s' (hn|h) hf
  .exact .inl hn
  .exact h.elim
 |frozen a k ih=>
  rintro R s' (hn|⟨r',k',rfl,hk⟩) hf
  .exact .inl hn
  .exact .inr ⟨r',_,rfl,λx x'=>ih x (hk x x') hf⟩
 |getObj r k ih=>
  rintro R s' (hn|⟨r',k',rfl,hr,hk⟩) hf
  .exact .inl hn
  .exact .inr ⟨r',_,rfl,hr,λo o' ho=>ih o (hk o o' ho) hf⟩
 |setObj r o k ih=>
  rintro R s' (hn|⟨r',o',k',rfl,hr,ho,hk⟩) hf
  .exact .inl hn
  .exact .inr ⟨r',o',_,rfl,hr,ho,ih hk hf⟩
 |choose q k ih=>
  rintro R s' (hn|⟨k',rfl,hk⟩) hf
  .exact .inl hn
  .exact .inr ⟨_,rfl,λn=>ih n (hk n) hf⟩
 |sys c k ih=>
  rintro R s' (hn|h) hf
  .exact .inl hn
  .exact h.elim
 |program k ih=>
  rintro R s' (hn|⟨k',rfl,hk⟩) hf
  .exact .inl hn
  .exact .inr ⟨_,rfl,ih P.g hk hf⟩
 |mark m k ih=>
  rintro R s' (hn|⟨rfl,k',rfl,hk⟩) hf
  .exact .inl hn
  .exact .inr ⟨rfl,_,rfl,ih hk hf⟩
 |halt h=>
  rintro R s' (hn|hx) _
  .exact .inl hn
  .exact hx.elim
end
structure cV (S:aQ->Prop)(K R:Pr)(G:Gp)(St:Nat->Prop)(w W:aE):Prop where
 inj:∀a b c,R.or K a b->R.or K a c->b=c
 inj':∀a b c,R.or K a c->R.or K b c->a=b
 lt:∀a b,R.or K a b->a<w.heap.size/\b<W.heap.size
 low:∀a b,R a b->(a<G.n↔b<G.n)/\(a<G.n->a=b)
 gle:G.n<=w.heap.size/\G.n<=W.heap.size
 cont:∀a b,R a b->∃o o',w.heap[a]? =some o/\W.heap[b]? =some o'/\oS S K R o o'
 rest:∀a b,K a b->(∀c,¬R a c)->w.heap[a]? =some pF
 st:∀a,St a->(∃b,R a b)/\∃c T hi,w.heap[a]? =some (.cells c T (0,hi))/\c.size<=hi
 np:Ct w
 tb:∀g,G.tab g=true->R g g
def Tp (w W:aE):Prop:=∀n q,w.tape (w.drawn+n) q=W.tape (W.drawn+n) q
def Hd (e:Event):Option Nat:=match e.loc with| .cell a=>some a.block| .obj r=>some r|_=>none
def H6 (R:Pr)(St:Nat->Prop)(e:Event):Prop:=
 e=⟨.mark .noRoom,false,true⟩\/∃b a,Hd e=some b/\R a b/\(e.write=true->¬St a)
variable {St:Nat->Prop}
theorem H6.mono (h:R.le R'){e:Event}(x:H6 R St e):H6 R' St e:=by
 rcases x with x|⟨b,a,h1,h2,h3⟩
 .exact .inl x
 .exact .inr ⟨b,a,h1,h _ _ h2,h3⟩
structure nJ (S:aQ->Prop)(K R:Pr)(G:Gp)(St:Nat->Prop)(w W:aE)(R':Pr)(w' W':aE):Prop where
 le:R.le R'
 old:∀a b,R a b->a<w.heap.size/\b<W.heap.size
 rel:cV S K R' G St w' W'
 tape:w'.tape=w.tape/\W'.tape=W.tape
 drawn:∃d,w'.drawn=w.drawn+d/\W'.drawn=W.drawn+d
 os:w'.os=w.os/\W'.os=W.os
 ou:w'.output=w.output/\W'.output=W.output
 size:w.heap.size<=w'.heap.size/\W.heap.size<=W'.heap.size
 new:∀a b,R' a b->R a b\/(w.heap.size<=a/\W.heap.size<=b)
 full:∀b,W.heap.size<=b->b<W'.heap.size->∃a,R' a b/\w.heap.size<=a
 keep:∀b,b<W.heap.size->(∀a,R a b->St a)->W'.heap[b]? =W.heap[b]?
 still:∀a,St a->w'.heap[a]? =w.heap[a]?
 keepG:∀a,a<w.heap.size->(∀b,¬R a b)->w'.heap[a]? =w.heap[a]?
section
variable {P:dM}{S:aQ->Prop}{K R R' Pz:Pr}{G:Gp}{St:Nat->Prop}{w W w' W' F9 ztX:aE}
def cV.ltR (h:cV S K R G St w W):∀a b,R a b->a<w.heap.size/\b<W.heap.size:=λa b x=>h.lt a b (.inl x)
def nJ.refl (h:cV S K R G St w W):nJ S K R G St w W R w W:=
 ⟨.refl R,h.ltR,h,⟨rfl,rfl⟩,⟨0,rfl,rfl⟩,⟨rfl,rfl⟩,⟨rfl,rfl⟩,⟨bF _,bF _⟩,λ_ _ h=>.inl h,λb h1 h2=>absurd h2 aC,λ_ _ _=>rfl,λ_ _=>rfl,λ_ _ _=>rfl⟩
theorem nJ.trans (h:nJ S K R G St w W R' w' W')(h':nJ S K R' G St w' W' Pz F9 ztX):nJ S K R G St w W Pz F9 ztX:=by
 obtain⟨d,d1,d2⟩:=h.drawn;obtain⟨e,e1,e2⟩:=h'.drawn;have s1:=h.size;have s2:=h'.size;refine⟨h.le.trans h'.le,h.old,h'.rel,⟨h'.tape.1.trans h.tape.1,h'.tape.2.trans h.tape.2⟩,⟨d+e,aC,aC⟩,⟨h'.os.1.trans h.os.1,h'.os.2.trans h.os.2⟩,⟨h'.ou.1.trans h.ou.1,h'.ou.2.trans h.ou.2⟩,⟨aC,aC⟩,?_,?_,?_,?_,?_⟩
 .intro a b x
  rcases h'.new a b x with x|⟨x,y⟩
  .exact h.new a b x
  omega
 .intro b x y
  rcases qX b W'.heap.size with z|z
  .obtain⟨a,r,g⟩:=h.full b x z
   exact⟨a,h'.le a b r,g⟩
  .obtain⟨a,r,g⟩:=h'.full b z y
   grind
 .intro b x hk
  refine(h'.keep b aC λa r=>?_).trans (h.keep b x hk);rcases h.new a b r with r'|⟨_,r'⟩
  .exact hk a r'
  .omega
 .intro a x;exact(h'.still a x).trans (h.still a x)
 .intro a x y
  refine(h'.keepG a aC λb r=>?_).trans (h.keepG a x y);rcases h.new a b r with r'|⟨r',_⟩
  .exact y b r'
  .omega
end
section
variable {P:dM}{S:aQ->Prop}{K R R':Pr}{G:Gp}{St:Nat->Prop}{w W w' W':aE}
def zos:(Mode.plain==Mode.atomic)=false:=rfl
variable {o:qD}
def ztB {w:aE}{a:Nat}(h:w.heap[a]? =some o):a<w.heap.size:=(eB.1 h).1
variable {o':qD}
theorem oS.live {S:aQ->Prop}{K R:Pr}(h:oS S K R o o'):∀c e,o≠ .pending c e:=by cases h<;>simp
theorem Ct.set {w:aE}(h:Ct w){a:Nat}(ho:∀c e,o≠ .pending c e):Ct {w with heap:=w.heap.setIfInBounds a o}:=by
 intro b c e;by_cases hb:a=b
 .grind
 .simp only[tL hb];exact h b c e
theorem Ct.push {w:aE}(h:Ct w)(ho:∀c e,o≠ .pending c e):Ct {w with heap:=w.heap.push o}:=by
 intro b c e;simp only[zlr];split
 .simp_all
 .exact h b c e
theorem nJ.upd (h:cV S K R G St w W){a b:Nat}(r:R a b)(ns:¬St a)(ho:oS S K R o o'):
 nJ S K R G St w W R {w with heap:=w.heap.setIfInBounds a o} {W with heap:=W.heap.setIfInBounds b o'}:=by
 obtain⟨l1,l2⟩:=h.ltR a b r;refine⟨.refl R,h.ltR,⟨h.inj,h.inj',λx y z=>by simpa using h.lt x y z,h.low,by simpa using h.gle,λx y z=>?_,λx y' hx nf=>?_,λx sx=>?_,Ct.set h.np ho.live,h.tb⟩,⟨rfl,rfl⟩,⟨0,rfl,rfl⟩,⟨rfl,rfl⟩,⟨rfl,rfl⟩,⟨aN,aN⟩,λ_ _ h=>.inl h,λx h1 h2=>absurd h2 oX,λx hx hk=>?_,λx sx=>?_,λx hx nf=>?_⟩
 .by_cases e:x=a
  .subst e
   have:=h.inj x y b (.inl z) (.inl r);simp_all
  .have e':y≠b:=λe'=>e (h.inj' x a b (.inl (e'▸z)) (.inl r))
   obtain⟨p,q,h1,h2,h3⟩:=h.cont x y z
   grind
 .have e:x≠a:=λe=>nf b (e▸r)
  have:=h.rest x _ hx nf
  grind
 .have e:x≠a:=λe=>ns (e▸sx)
  obtain⟨fx,c,T,hi,h1,h2⟩:=h.st x sx
  grind
 .grind
 .grind
 grind
theorem Yc {w:aE}{b o:Nat}{c:Array aF}{T:aM}{fz:Nat×Nat}(h:w.heap[b]? =some (.cells c T fz))(v:aF):
 w.setCell ⟨b,o,none⟩ v={w with heap:=w.heap.setIfInBounds b (.cells (c.setIfInBounds o v) T fz)}:=by
 have hl:=ztB h;have hb:w.heap[b]=.cells c T fz:=by simpa[pS hl] using h
 unfold zcp;congr 1
 grind
theorem nJ.push (h:cV S K R G St w W)(ho:oS S K R o o'):
 nJ S K R G St w W (R.add w.heap.size W.heap.size) {w with heap:=w.heap.push o} {W with heap:=W.heap.push o'}:=by
 have l1:∀a b,R.or K a b->a≠w.heap.size:=λa b x e=>by have:=(h.lt a b x).1;omega
 have l2:∀a b,R.or K a b->b≠W.heap.size:=λa b x e=>by have:=(h.lt a b x).2;omega
 have g1:=h.gle;refine⟨Pr.le_add _ _ _,h.ltR,⟨?_,?_,?_,?_,oX,?_,?_,?_,Ct.push h.np ho.live,λg hg=>.inl (h.tb g hg)⟩,⟨rfl,rfl⟩,⟨0,rfl,rfl⟩,⟨rfl,rfl⟩,⟨rfl,rfl⟩,⟨aN,aN⟩,?_,?_,?_,?_,?_⟩
 .rintro a b c ((x|⟨rfl,rfl⟩)|x) ((y|⟨e,rfl⟩)|y)
  .exact h.inj a b c (.inl x) (.inl y)
  .exact absurd e (l1 _ _ (.inl x))
  .exact h.inj a b c (.inl x) (.inr y)
  .exact absurd rfl (l1 _ _ (.inl y))
  .rfl
  .exact absurd rfl (l1 _ _ (.inr y))
  .exact h.inj a b c (.inr x) (.inl y)
  .exact absurd e (l1 _ _ (.inr x))
  .exact h.inj a b c (.inr x) (.inr y)
 .rintro a b c ((x|⟨rfl,rfl⟩)|x) ((y|⟨rfl,e⟩)|y)
  .exact h.inj' a b c (.inl x) (.inl y)
  .exact absurd e (l2 _ _ (.inl x))
  .exact h.inj' a b c (.inl x) (.inr y)
  .exact absurd rfl (l2 _ _ (.inl y))
  .rfl
  .exact absurd rfl (l2 _ _ (.inr y))
  .exact h.inj' a b c (.inr x) (.inl y)
  .exact absurd e (l2 _ _ (.inr x))
  .exact h.inj' a b c (.inr x) (.inr y)
 .rintro a b ((x|⟨rfl,rfl⟩)|x)
  .have:=h.lt a b (.inl x);simp;omega
  .simp
  .have:=h.lt a b (.inr x);simp;omega
 .rintro a b (x|⟨rfl,rfl⟩)
  .exact h.low a b x
  omega
 .rintro a b (x|⟨rfl,rfl⟩)
  .obtain⟨p,q,h1,h2,h3⟩:=h.cont a b x
   exact⟨p,q,by grind,by grind,h3.mono (Pr.le_add _ _ _)⟩
  .exact⟨o,o',aN,aN,ho.mono (Pr.le_add _ _ _)⟩
 .intro a b' ha nf
  have e:a≠w.heap.size:=λe=>nf _ (.inr ⟨e,rfl⟩);have hl:a<w.heap.size:=(h.lt a b' (.inr ha)).1;have:=h.rest a b' ha (λb f=>nf b (.inl f));rw[zsD hl,<-this,pS]
 .intro a sa
  obtain⟨⟨b,fa⟩,c,T,hi,h1,h2⟩:=h.st a sa;exact⟨⟨b,.inl fa⟩,c,T,hi,by rw[zsD (ztB h1),<-h1,pS],h2⟩
 .rintro a b (x|⟨rfl,rfl⟩)
  .exact .inl x
  omega
 .intro b x y
  simp only[Array.size_push] at y;obtain rfl:b=W.heap.size:=aC;exact⟨_,.inr ⟨rfl,rfl⟩,bF _⟩
 .grind
 .intro a sa
  obtain⟨fa,c,T,hi,h1,h2⟩:=h.st a sa
  grind
 grind
def nJ.draw (h:cV S K R G St w W):nJ S K R G St w W R {w with drawn:=w.drawn+1} {W with drawn:=W.drawn+1}:=
 ⟨.refl R,h.ltR,⟨h.inj,h.inj',h.lt,h.low,h.gle,h.cont,h.rest,h.st,h.np,h.tb⟩,⟨rfl,rfl⟩,⟨1,rfl,rfl⟩,⟨rfl,rfl⟩,⟨rfl,rfl⟩,⟨bF _,bF _⟩,λ_ _ h=>.inl h,λb h1 h2=>absurd h2 oX,λ_ _ _=>rfl,λ_ _=>rfl,λ_ _ _=>rfl⟩
theorem Tp.step (h:Tp w W)(s:nJ S K R G St w W R' w' W'):Tp w' W':=by
 obtain⟨d,d1,d2⟩:=s.drawn;intro n q;rw[s.tape.1,s.tape.2,d1,d2,zcg,zcg];exact h (d+n) q
end
def Ac (P:dM)(S:aQ->Prop)(K:Pr){α β:Type}(A:Pr->α->β->Prop)(R:Pr)(G:Gp)(St:Nat->Prop)(w W:aE)(s':cY β)(x:α)(w':aE):Prop:=
 ∃R' x' W' ev,s'.run P.c W=.ok x' W'/\A R' x x'/\nJ S K R G St w W R' w' W'/\(∀es,s'.events P.c W es=es++ev)/\∀e∈ev,H6 R' St e
variable {S:aQ->Prop}{W w':aE}{e₁:Array Event}
theorem Ac.after {A:Pr->α->β->Prop}{znN:Pr}{G:Gp}{aJ aX:aE}{s' s₁':cY β}{x:α}
 (wM:nJ S K R G St w W znN aJ aX) (hr:s'.run P.c W=s₁'.run P.c aX) (he:∀es,s'.events P.c W es=s₁'.events P.c aX (es++e₁)) (bS:∀e∈e₁,H6 znN St e) (h:Ac P S K A znN G St aJ aX s₁' x w'):Ac P S K A R G St w W s' x w':=by
 obtain⟨R',x',W',ev,a,b,c,d,e⟩:=h;refine⟨R',x',W',e₁++ev,hr.trans a,b,wM.trans c,λes=>by simp_all,λy hy=>?_⟩;rcases Array.mem_append.1 hy with hy|hy
 .exact(bS y hy).mono c.le
 .exact e y hy
theorem oS.shape {G:Gp}(h:cV S K R G St w W){r r':Nat}(x:R r r'):W.shape? r'=w.shape? r:=by
 obtain⟨o,o',h1,h2,h3⟩:=h.cont r r' x;unfold zcR;rw[h1,h2]
 cases h3 with
 |cells hc _=>simp[hc.1]
 |_=>rfl
theorem cV.orR {G:Gp}(h:cV S K R G St w W){a b:Nat}(x:R.or K a b):R a b\/w.heap[a]? =some pF:=by
 by_cases e:∃c,R a c
 .obtain⟨c,e⟩:=e
  exact .inl (h.inj a b c x (.inl e)▸e)
 .exact .inr (h.rest a b (x.resolve_left λy=>e ⟨b,y⟩) (λc y=>e ⟨c,y⟩))
theorem aG.run {A:Pr->α->β->Prop}{G:Gp}(hG:G=P.gp){x:α}(s:cY α):
 ∀{R:Pr} {w W:aE} {s':cY β},aG P S K A s R s'->cV S K R G St w W->Tp w W->s.run P.g w=.ok x w'->Ac P S K A R G St w W s' x w':=by
 induction s with
 |pure a=>
  rintro R w W s' (hn|⟨b,rfl,h⟩) hw ht hr
  .exact absurd hr (hn.no hw.np _ _)
  simp only[bL,Result.ok.injEq] at hr;obtain⟨rfl,rfl⟩:=hr;exact⟨R,b,W,#[],rfl,h,.refl hw,λes=>by unfold xI;rw[B8];simp,λe he=>by simp at he⟩
 |load m a k ih=>
  rintro R w W s' (hn|⟨rfl,a',k',rfl,ha,hk⟩) hw ht hr
  .exact absurd hr (hn.no hw.np _ _)
  obtain⟨qZ⟩:=ha;rename_i b b' o sp
  .obtain⟨ob,Cq,h1,h2,h3⟩:=hw.cont b b' qZ
   cases h3 with
   |cells hc hz=>
    rename_i c c' T fz Iw
    cases sp with
    |some sp=>simp[bL,lW,h1,y9,rR] at hr
    |none=>
     cases hv:c[o]? with
     |none=>simp[bL,lW,h1,y9,rR,hv] at hr
     |some v=>
      obtain⟨v',L9,qS⟩:=hc.get hv;have e1:w.cell? ⟨b,o,none⟩=some v:=by simp[lW,h1,hv]
      have e2:W.cell? ⟨b',o,none⟩=some v':=by simp[lW,h2,L9]
      rw[bL,e1] at hr;refine Ac.after (e₁:=#[⟨.cell ⟨b',o,none⟩,false,false⟩]) (.refl hw) (by rw[bL,e2]) (λes=>by unfold xI;rw[B8,e2];simp[zos]) ?_ (ih v (hk v v' qS) hw ht hr);intro e he;simp at he;subst he;exact .inr ⟨b',b,rfl,qZ,aN⟩
   |map x=>simp[bL,lW,h1,y9,rR] at hr
   |chan x=>simp[bL,lW,h1,y9,rR] at hr
   |stringIter x y=>simp[bL,lW,h1,y9,rR] at hr
   |mapIter x=>simp[bL,lW,h1,y9,rR] at hr
   |number x=>simp[bL,lW,h1,y9,rR] at hr
 |store m a v k ih=>
  rintro R w W s' (hn|⟨rfl,a',v',k',rfl,ha,hv,hk⟩) hw ht hr
  .exact absurd hr (hn.no hw.np _ _)
  obtain⟨qZ⟩:=ha;rename_i b b' o sp;have Uo:∀cs,v≠ .agg cs:=by rintro cs rfl;simp[bL] at hr
  have Gi:∀cs,v≠ .tuple cs:=by rintro cs rfl;simp[bL] at hr
  have zqK:∀cs,v'≠ .agg cs:=by rintro cs rfl;cases hv<;>first|exact Uo _ rfl|exact Gi _ rfl|(rename_i hh;exact hh.elim)
  have zpk:∀cs,v'≠ .tuple cs:=by rintro cs rfl;cases hv<;>first|exact Gi _ rfl|(rename_i hh;exact hh.elim)
  rw[bL] at hr
  rotate_left
  .exact λcs=>Uo cs
  .exact λcs=>Gi cs
  .obtain⟨ob,Cq,h1,h2,h3⟩:=hw.cont b b' qZ
   cases h3 with
   |cells hc hz=>
    rename_i c c' T fz Iw
    cases sp with
    |some sp=>simp[lW,h1,Dp,rR] at hr
    |none=>
     cases gI:c[o]? with
     |none=>simp[lW,h1,Dp,rR,gI] at hr
     |some v0=>
      obtain⟨zE2,zA7,_⟩:=hc.get gI;have e1:w.cell? ⟨b,o,none⟩=some v0:=by simp[lW,h1,gI]
      have e2:W.cell? ⟨b',o,none⟩=some zE2:=by simp[lW,h2,zA7]
      rw[e1] at hr;simp only at hr
      cases nZ:w.frozen? ⟨b,o,none⟩ with
      |true=>simp_all
      |false=>
       rw[nZ] at hr;simp only[iX,if_false] at hr;have Xb:¬Kk fz o:=by
        intro⟨z1,z2⟩;simp[Jg,h1,z1,z2] at nZ
       have Ad:¬St b:=by
        intro hs;obtain⟨_,c2,T2,hi,g1,g2⟩:=hw.st b hs;rw[h1] at g1;injection g1 with g1;injection g1 with g1 _ g3;subst g1 g3;exact Xb ⟨lP _,jO (eB.1 gI).1 g2⟩
       have zuy:W.frozen? ⟨b',o,none⟩=false:=by
        simp only[Jg,h2]
        cases hq:(decide (Iw.1<=o)&&decide (o<Iw.2)) with
        |false=>rfl
        |true=>simp at hq;exact absurd (hz o hq) Xb
       rw[Yc h1] at hr;refine Ac.after (e₁:=#[⟨.cell ⟨b',o,none⟩,true,false⟩]) (nJ.upd hw qZ Ad (.cells (hc.set o hv) hz)) (s₁':=k') ?_ ?_ ?_ (ih hk (nJ.upd hw qZ Ad (.cells (hc.set o hv) hz)).rel (ht.step (nJ.upd hw qZ Ad (.cells (hc.set o hv) hz))) hr)
       .rw[bL]
        rotate_left
        .exact λcs=>zqK cs
        .exact λcs=>zpk cs
        rw[e2];simp only[zuy,iX,if_false];rw[Yc h2]
       .intro es
        unfold xI;rw[B8]
        rotate_left
        .exact λcs=>zqK cs
        .exact λcs=>zpk cs
        rw[e2];simp only[zuy,iX,if_false];rw[Yc h2];simp[zos]
       .intro e he
        simp at he;subst he;exact .inr ⟨b',b,rfl,qZ,λ_=>Ad⟩
   |map x=>simp[lW,h1,Dp,rR] at hr
   |chan x=>simp[lW,h1,Dp,rR] at hr
   |stringIter x y=>simp[lW,h1,Dp,rR] at hr
   |mapIter x=>simp[lW,h1,Dp,rR] at hr
   |number x=>simp[lW,h1,Dp,rR] at hr
 |new o k ih=>
  rintro R w W s' (hn|⟨o',k',rfl,ho,hk⟩) hw ht hr
  .exact absurd hr (hn.no hw.np _ _)
  rw[bL] at hr;exact Ac.after (e₁:=#[]) (nJ.push hw ho) Mw (λes=>by unfold xI;rw[B8];simp) (λe he=>by simp at he) (ih _ (hk _ _ ⟨λb hb=>absurd (hw.lt _ _ hb).1 (Ij _),λa ha=>absurd (hw.lt _ _ ha).2 (Ij _),by subst hG;exact hw.gle⟩) (nJ.push hw ho).rel (ht.step (nJ.push hw ho)) hr)
 |shape r k ih=>
  rintro R w W s' (hn|⟨r',k',rfl,tV,hk⟩) hw ht hr
  .exact absurd hr (hn.no hw.np _ _)
  rw[bL] at hr;exact Ac.after (e₁:=#[]) (.refl hw) (by rw[bL,oS.shape hw tV]) (λes=>by unfold xI;rw[B8,oS.shape hw tV];simp) (λe he=>by simp at he) (ih _ (hk _) hw ht hr)
 |freeze a n k ih=>
  rintro R w W s' (hn|h) hw ht hr
  .exact absurd hr (hn.no hw.np _ _)
  .exact h.elim
 |frozen a k ih=>
  rintro R w W s' (hn|⟨r',k',rfl,hk⟩) hw ht hr
  .exact absurd hr (hn.no hw.np _ _)
  rw[bL] at hr;exact Ac.after (e₁:=#[]) (.refl hw) Mw (λes=>by unfold xI;rw[B8];simp) (λe he=>by simp at he) (ih _ (hk _ _) hw ht hr)
 |getObj r k ih=>
  rintro R w W s' (hn|⟨r',k',rfl,tV,hk⟩) hw ht hr
  .exact absurd hr (hn.no hw.np _ _)
  rw[bL] at hr
  .replace tV:R r r':=by
    rcases hw.orR tV with x|x
    .exact x
    .rw[x] at hr;simp[pF] at hr
   obtain⟨ob,Cq,h1,h2,h3⟩:=hw.cont r r' tV;rw[h1] at hr;have go:(∀c T fz,ob≠ .cells c T fz)->(∀c T fz,Cq≠ .cells c T fz)->Ac P S K A R G St w W (.getObj r' k') x w':=by
    intro n1 n2;refine Ac.after (e₁:=#[⟨.obj r',false,Cq.isChan⟩]) (.refl hw) (s₁':=k' Cq) ?_ ?_ ?_ (ih ob (hk _ _ h3) hw ht ?_)
    .rw[bL,h2];simp_all
    .intro es;unfold xI;rw[B8,h2];simp_all
    .intro e he
     simp at he;subst he;exact .inr ⟨r',r,rfl,tV,aN⟩
    .simp_all
   cases h3 with
   |cells hc hz=>simp at hr
   |map x=>simp_all
   |chan x=>simp_all
   |stringIter x y=>simp_all
   |mapIter x=>simp_all
   |number x=>simp_all
 |setObj r o k ih=>
  rintro R w W s' (hn|⟨r',o',k',rfl,tV,ho,hk⟩) hw ht hr
  .exact absurd hr (hn.no hw.np _ _)
  rw[bL] at hr
  .replace tV:R r r':=by
    rcases hw.orR tV with x|x
    .exact x
    .rw[x] at hr;simp[pF] at hr
   obtain⟨ob,Cq,h1,h2,h3⟩:=hw.cont r r' tV;rw[h1] at hr;have go:(∀c T fz,ob≠ .cells c T fz)->(∀c T fz,Cq≠ .cells c T fz)->Ac P S K A R G St w W (.setObj r' o' k') x w':=by
    intro n1 n2;have Ad:¬St r:=by
     intro hs;obtain⟨_,c2,T2,hi,g1,g2⟩:=hw.st r hs;rw[h1] at g1;injection g1 with g1;exact n1 _ _ _ g1
    refine Ac.after (e₁:=#[⟨.obj r',true,o'.isChan⟩]) (nJ.upd hw tV Ad ho) (s₁':=k') ?_ ?_ ?_ (ih hk (nJ.upd hw tV Ad ho).rel (ht.step (nJ.upd hw tV Ad ho)) ?_)
    .rw[bL,h2];simp_all
    .intro es;unfold xI;rw[B8,h2];simp_all
    .intro e he
     simp at he;subst he;exact .inr ⟨r',r,rfl,tV,λ_=>Ad⟩
    .simp_all
   cases h3 with
   |cells hc hz=>simp at hr
   |map x=>simp_all
   |chan x=>simp_all
   |stringIter x y=>simp_all
   |mapIter x=>simp_all
   |number x=>simp_all
 |choose q k ih=>
  rintro R w W s' (hn|⟨k',rfl,hk⟩) hw ht hr
  .exact absurd hr (hn.no hw.np _ _)
  rw[bL] at hr
  cases hq:q.forced with
  |true=>
   rw[hq] at hr;simp only[if_true] at hr;exact Ac.after (e₁:=#[]) (.refl hw) (by rw[bL,hq];simp) (λes=>by unfold xI;rw[B8,hq];simp) (λe he=>by simp at he) (ih 0 (hk 0) hw ht hr)
  |false=>
   rw[hq] at hr;simp only[iX,if_false] at hr;have ea:w.tape w.drawn q=W.tape W.drawn q:=ht 0 q;rw[ea] at hr;exact Ac.after (e₁:=#[]) (nJ.draw hw) (by rw[bL,hq];simp) (λes=>by unfold xI;rw[B8,hq];simp) (λe he=>by simp at he) (ih _ (hk _) (nJ.draw hw).rel (ht.step (nJ.draw hw)) hr)
 |sys c k ih=>
  rintro R w W s' (hn|h) hw ht hr
  .exact absurd hr (hn.no hw.np _ _)
  .exact h.elim
 |program k ih=>
  rintro R w W s' (hn|⟨k',rfl,hk⟩) hw ht hr
  .exact absurd hr (hn.no hw.np _ _)
  rw[bL] at hr;exact Ac.after (e₁:=#[]) (.refl hw) Mw (λes=>by unfold xI;rw[B8];simp) (λe he=>by simp at he) (ih _ hk hw ht hr)
 |mark m k ih=>
  rintro R w W s' (hn|⟨rfl,k',rfl,hk⟩) hw ht hr
  .exact absurd hr (hn.no hw.np _ _)
  .rw[bL] at hr
   exact Ac.after (e₁:=#[⟨.mark .noRoom,false,true⟩]) (.refl hw) Mw (λes=>by unfold xI;rw[B8];simp) (λe he=>by simp at he;exact .inl he) (ih hk hw ht hr)
 |halt h=>simp_all
section
variable {P:dM}{S:aQ->Prop}{K:Pr}{α β γ δ:Type}{R:Pr}
abbrev l7 {α:Type}:Pr->α->α->Prop:=λ_ a b=>a=b
abbrev VA (S:aQ->Prop)(K:Pr):Pr->aF->aF->Prop:=λR v v'=>VR S K R v v'
def aG.bnd {A:Pr->α->β->Prop}{B:Pr->γ->δ->Prop}{s:cY α}{s':cY β}{f:α->cY γ}{f':β->cY δ}(h:aG P S K A s R s')(hf:∀R',yQ P K R R'->∀a b,A R' a b->aG P S K B (f a) R' (f' b)):
 aG P S K B (s>>=f) R (s'>>=f'):=aG.bind h hf
def aG.ret {A:Pr->α->β->Prop}{a:α}{b:β}(h:A R a b):aG P S K A (mE a:cY α) R (mE b:cY β):=aG.pure h
def bQ {Rp:String}:fA P (stuck Rp:cY α):=fA.halt trivial
variable {u:Unsupported}
theorem lV (hu:V7 (.unsupported u):=by trivial):fA P (unsupported u:cY α):=fA.halt hu
variable {v:aF}
def zeD :fA P (goPanic v:cY α):=fA.halt trivial
def fA.bnd {s:cY α}(h:fA P s)(f:α->cY β):fA P (s>>=f):=h.bind f
def nN (P:dM)(s:cY α):Prop:=∀w,Ct w->(∃a w',s.run P.g w=.ok a w'/\Ct w')\/∃h w',s.run P.g w=.halt h w'/\V7 h
def nN.never {s:cY α}(h:fA P s):nN P s:=λw hw=>.inr (h w hw)
def nN.ret (a:α):nN P (mE a:cY α):=λw hw=>.inl ⟨a,w,rfl,hw⟩
theorem nN.bnd {s:cY α}{f:α->cY β}(h:nN P s)(hf:∀a,nN P (f a)):nN P (s>>=f):=by
 intro w hw;have e:(s>>=f).run P.g w=_:=uR P.g s f w;rcases h w hw with⟨a,w',h1,h2⟩|⟨y,w',h1,h2⟩
 .rcases hf a w' h2 with⟨b,w2,h3,h4⟩|⟨y,w2,h3,h4⟩
  .exact .inl ⟨b,w2,by rw[e,h1];exact h3,h4⟩
  simp_all
 simp_all
def znL:nN P program:=λw hw=>.inl ⟨P.g,w,rfl,hw⟩
theorem zmy (q:Question):nN P (choose q):=λw hw=>by
 unfold choose bL;split
 .exact .inl ⟨0,w,rfl,hw⟩
 .exact .inl ⟨_,_,rfl,hw⟩
def zFb (r:Nat):nN P (shape r):=λw hw=>.inl ⟨_,w,rfl,hw⟩
variable {o:qD}
def zGf (ho:∀c e,o≠ .pending c e):nN P (newObj o):=λw hw=>.inl ⟨_,_,rfl,Ct.push hw ho⟩
theorem zCg (t:aM):nN P (underlying t):=by
 unfold underlying;refine znL.bnd λp=>?_;split
 .exact nN.ret _
 .exact .never bQ
theorem zyu (t:aM)(v:aF):nN P (newVar t v):=by
 unfold newVar newRow;exact(zGf aN).bnd λ_=>nN.ret _
theorem zB4 (t:aM):nN P (elemOf t):=by
 unfold elemOf;refine(zCg t).bnd λd=>?_;split
 .exact nN.ret _
 .exact .never bQ
def zHw (a:bC):nN P (frozen a):=λw hw=>.inl ⟨_,w,rfl,hw⟩
def zHm (m:Mark):nN P (mark m):=λw hw=>.inl ⟨_,w,rfl,hw⟩
theorem zvD (a:bC)(n:Nat):nN P (ziA a n):=by
 unfold ziA;refine(zFb _).bnd λx=>?_;split<;>exact nN.ret _
theorem zB2 (size zcl n:Nat)(base:Option bC)(x:aF):nN P (zws size zcl n base x):=by
 unfold zws;have tail:∀b:Bool,nN P (match x with
  | .slice (some b) _ _=>do pure (!(<-ziA b (n*size))||base.any (·.block==b.block))
  |_=>pure false:cY Bool):=λ_=>by
  split
  .exact(zvD _ _).bnd λ_=>nN.ret _
  .exact nN.ret _
 cases base with
 |none=>
  refine(nN.ret true).bnd λthere=>?_;cases there
  .exact nN.ret _
  .exact tail true
 |some a=>
  refine(zvD _ _).bnd λh1=>(zHw _).bnd λh2=>?_;refine(nN.ret _).bnd λthere=>?_;cases there
  .exact nN.ret _
  .exact tail true
theorem fA.then {s:cY α}{f:α->cY β}(hs:nN P s)(h:∀a,fA P (f a)):fA P (s>>=f):=by
 intro w hw;have e:(s>>=f).run P.g w=_:=uR P.g s f w;rcases hs w hw with⟨a,w',h1,h2⟩|⟨y,w',h1,h2⟩
 .obtain⟨y,w2,h3,h4⟩:=h a w' h2
  simp_all
 simp_all
variable {e:RuntimeError}
theorem vX :fA P (runtimePanic e:cY α):=by
 unfold runtimePanic;refine fA.then znL λp=>?_;cases e<;>first|exact zeD|(refine fA.then (zB4 _) λ_=>?_;refine fA.then (zyu _ _) λ_=>?_;exact zeD)
theorem Y0 {k:C7}{x y:Int}{c:zmv}:fA P (boundsPanic k x y c:cY α):=by
 unfold boundsPanic;simp only;split
 .refine fA.then ?_ λ_=>vX
  exact(zmy _).bnd λ_=>nN.ret _
 .exact fA.then (nN.ret _) λ_=>vX
def Uk:aG P S K (λ_ a b=>a=P.g/\b=P.c) program R program:=.inr ⟨_,rfl,.inr ⟨P.c,rfl,rfl,rfl⟩⟩
def zfT (q:Question):aG P S K l7 (choose q) R (choose q):=.inr ⟨_,rfl,λn=>.inr ⟨n,rfl,rfl⟩⟩
theorem mR (t:aM):aG P S K (λ_ a b=>a=b/\P.underlying t=some a) (underlying t) R (underlying t):=by
 unfold underlying;refine aG.bnd Uk ?_;rintro R' _ a b ⟨ha,hb⟩;rw[ha,hb,P.underlying_g]
 cases h:P.c.underlying t with
 |some d=>exact aG.ret ⟨rfl,h⟩
 |none=>exact .inl bQ
theorem Fb (t:aM):aG P S K (λ_ a b=>a=b/\P.info? t=some a) (typeInfo t) R (typeInfo t):=by
 unfold typeInfo;refine aG.bnd Uk ?_;rintro R' _ a b ⟨ha,hb⟩;rw[ha,hb,P.info_g]
 cases h:P.c.info? t with
 |some d=>exact aG.ret ⟨rfl,h⟩
 |none=>exact .inl bQ
def J6 (P:dM)(S:aQ->Prop):Prop:=∀(K R:Pr) t i z,P.info? t=some i->i.zero=some z->VR S K R z z
theorem Qi (hz:J6 P S)(t:aM):aG P S K (VA S K) (zeroValue t) R (zeroValue t):=by
 unfold zeroValue;refine aG.bnd (Fb t) ?_;rintro R' _ a b ⟨rfl,h⟩
 cases h2:a.zero with
 |some z=>exact aG.ret (hz K R' t a z h h2)
 |none=>exact .inl lV
theorem Bb (t:aM):aG P S K l7 (sizeOf t) R (sizeOf t):=by
 unfold sizeOf;refine aG.bnd (Fb t) ?_;rintro R' _ a b ⟨rfl,h⟩;exact aG.ret rfl
theorem zuh (t:aM):aG P S K l7 (isAgg t) R (isAgg t):=by
 unfold isAgg;refine aG.bnd (mR t) ?_;rintro R' _ a b ⟨rfl,h⟩;cases a<;>exact aG.ret rfl
variable {v':aF}
theorem zfq (h:VR S K R v v'):aG P S K l7 (asIntOf v) R (asIntOf v'):=by
 cases h with
 |int k n=>exact aG.ret rfl
 |pointer x=>cases x<;>first|exact .inl lV|exact .inl bQ
 |_=>exact .inl bQ
theorem Zl (h:VR S K R v v'):aG P S K l7 (asInt v) R (asInt v'):=by
 unfold asInt;refine aG.bnd (zfq h) ?_;rintro R' _ a b rfl;exact aG.ret rfl
theorem zCC (h:VR S K R v v'):aG P S K l7 (asBool v) R (asBool v'):=by
 cases h with
 |bool b=>exact aG.ret rfl
 |_=>exact .inl bQ
theorem zxW (h:VR S K R v v'):aG P S K (λR a b=>fR R a b) (asAddr v) R (asAddr v'):=by
 cases h with
 |pointer x=>
  cases x with
  |none=>exact .inl (by unfold asAddr;exact vX)
  |some x=>exact aG.ret x
 |_=>exact .inl bQ
theorem zbn (h:VR S K R v v'):aG P S K (λR a b=>fR R a b) (zvT v) R (zvT v'):=by
 cases h with
 |pointer x=>
  cases x with
  |none=>exact .inl bQ
  |some x=>exact aG.ret x
 |_=>exact .inl bQ
variable {a a':bC}
def zrH (h:fR R a a'):aG P S K (VA S K) (load a) R (load a'):=.inr ⟨rfl,a',_,rfl,h,λv v' hv=>.inr ⟨v',rfl,hv⟩⟩
def zB0 (h:fR R a a')(hv:VR S K R v v'):aG P S K l7 (store a v) R (store a' v'):=.inr ⟨rfl,a',v',_,rfl,h,hv,.inr ⟨(),rfl,rfl⟩⟩
variable {o':qD}
def zeJ (h:oS S K R o o'):aG P S K (λR a b=>R a b) (newObj o) R (newObj o'):=.inr ⟨o',_,rfl,h,λn n' _=>.inr ⟨n',rfl,.inr ⟨rfl,rfl⟩⟩⟩
variable {r r':Nat}
def zbp (h:R r r'):aG P S K l7 (shape r) R (shape r'):=.inr ⟨r',_,rfl,h,λx=>.inr ⟨x,rfl,rfl⟩⟩
def Ux (h:R r r'):aG P S K (λR o o'=>oS S K R o o') (getObj r) R (getObj r'):=.inr ⟨r',_,rfl,.inl h,λo o' ho=>.inr ⟨o',rfl,ho⟩⟩
def zbH (h:R r r')(ho:oS S K R o o'):aG P S K l7 (setObj r o) R (setObj r' o'):=.inr ⟨r',o',_,rfl,.inl h,ho,.inr ⟨(),rfl,rfl⟩⟩
def zsi (h:R.or K r r'):aG P S K (λR o o'=>oS S K R o o') (getObj r) R (getObj r'):=.inr ⟨r',_,rfl,h,λo o' ho=>.inr ⟨o',rfl,ho⟩⟩
theorem zk1 (n:Nat):aG P S K l7 (askRoom n) R (askRoom n):=by
 unfold askRoom;split
 .exact .inr ⟨rfl,_,rfl,.inr ⟨(),rfl,rfl⟩⟩
 .exact aG.ret rfl
theorem fR.add (h:fR R a a')(n:Nat):fR R (a.add n) (a'.add n):=by
 cases h with
 |mk h=>unfold zgt;split<;>exact .mk h
theorem xX.map {a a':Option bC}(h:xX R a a')(n:Nat):xX R (a.map (·.add n)) (a'.map (·.add n)):=by
 cases h with
 |none=>exact .none
 |some h=>exact .some (h.add n)
theorem ztt :∀(n i:Nat) {R:Pr} {acc zg3:Array aF},fR R a a'->bM S K R acc zg3->aG P S K (λR x y=>bM S K R x y) (loadCellsFrom a i n acc) R (loadCellsFrom a' i n zg3)
 |0,i,R,acc,zg3,h,hc=>aG.ret hc
 |n+1,i,R,acc,zg3,h,hc=>by
  unfold loadCellsFrom;refine aG.bnd (zrH (h.add i)) ?_;intro R' hR v v' hv;exact ztt n (i+1) (h.mono hR.le) ((hc.mono hR.le).push hv)
def zkB (h:fR R a a')(n:Nat):aG P S K (λR x y=>bM S K R x y) (loadCells a n) R (loadCells a' n):=ztt n 0 h bM.empty
def yJ (S:aQ->Prop)(K R:Pr)(xs b8:List aF):Prop:=xs.length=b8.length/\∀(i:Nat) (v v':aF),xs[i]? =some v->b8[i]? =some v'->VR S K R v v'
theorem bM.toList {xs b8:Array aF}(h:bM S K R xs b8):yJ S K R xs.toList b8.toList:=⟨by simpa using h.1,λi v v' h1 h2=>h.2 i v v' Wt Y2⟩
variable {xs b8:List aF}
def yJ.mono {R':Pr}(hR:R.le R')(h:yJ S K R xs b8):yJ S K R' xs b8:=⟨h.1,λi v v' h1 h2=>(h.2 i v v' h1 h2).mono hR⟩
theorem yJ.cons {x x':aF}(h:yJ S K R (x::xs) (x'::b8)):VR S K R x x'/\yJ S K R xs b8:=
 ⟨h.2 0 x x' rfl rfl,by simpa using h.1,λi v v' h1 h2=>h.2 (i+1) v v' Wt Y2⟩
theorem Zd :∀(vs zej:List aF) (i:Nat) {R:Pr},fR R a a'->yJ S K R vs zej->aG P S K l7 (storeCells a vs i) R (storeCells a' zej i)
 |[],[],i,R,h,hv=>aG.ret rfl
 |[],_::_,i,R,h,hv=>by have:=hv.1;simp at this
 |_::_,[],i,R,h,hv=>by have:=hv.1;simp at this
 |v::vs,v'::zej,i,R,h,hv=>by
  unfold storeCells;obtain⟨h1,h2⟩:=hv.cons;refine aG.bnd (zB0 (h.add i) h1) ?_;intro R' hR _ _ _;exact Zd vs zej (i+1) (h.mono hR.le) (h2.mono hR.le)
theorem zsV (t:aM)(h:fR R a a'):aG P S K (VA S K) (loadVar t a) R (loadVar t a'):=by
 unfold loadVar;refine aG.bnd (zuh t) ?_;rintro R1 h1 b _ rfl
 cases b with
 |true=>
  simp only[if_true];refine aG.bnd (Bb t) ?_;rintro R2 h2 n _ rfl;refine aG.bnd (zkB ((h.mono h1.le).mono h2.le) n) ?_;intro R3 h3 x y zob;exact aG.ret (VR.agg' zob)
 |false=>simpa using zrH (h.mono h1.le)
theorem zCc (t:aM)(h:fR R a a')(hv:VR S K R v v'):aG P S K l7 (storeVar t a v) R (storeVar t a' v'):=by
 unfold storeVar;refine aG.bnd (Bb t) ?_;rintro R1 h1 n _ rfl;have hc:=hv.cells;rw[<-hc.1];split
 .exact .inl (bQ.bnd _)
 .exact Zd _ _ 0 (h.mono h1.le) ((hc.mono h1.le).toList)
variable {c c':Array aF}
theorem zb6 (e:aM)(h:bM S K R c c'):aG P S K (λR a b=>fR R a b) (newRow e c) R (newRow e c'):=by
 unfold newRow;refine aG.bnd (zeJ (.cells h λo ho=>ho)) ?_;intro R1 h1 n n' hn;exact aG.ret (.mk hn)
def zu5 (t:aM)(h:VR S K R v v'):aG P S K (λR a b=>fR R a b) (newVar t v) R (newVar t v'):=zb6 t h.cells
theorem zHQ (t:aM)(h:bM S K R c c')(off:Nat):aG P S K (VA S K) (part t c off) R (part t c' off):=by
 unfold part;refine aG.bnd (zuh t) ?_;rintro R1 h1 b _ rfl
 cases b with
 |true=>
  simp only[if_true];refine aG.bnd (Bb t) ?_;rintro R2 h2 n _ rfl;exact aG.ret (VR.agg' (((h.mono h1.le).mono h2.le).extract _ _))
 |false=>
  simp only[iX,if_false]
  cases hc:c[off]? with
  |none=>exact .inl bQ
  |some v=>obtain⟨v',L9,qS⟩:=(h.mono h1.le).get hc;rw[L9];exact aG.ret qS
end
section
variable {P:dM}{S:aQ->Prop}{K:Pr}{α β γ δ:Type}{R:Pr}
theorem zCp (hz:J6 P S)(e:aM):aG P S K (VA S K) (ziX e true (.tuple #[])) R (ziX e true (.tuple #[])):=by
 unfold ziX;refine aG.bnd (Qi hz e) ?_;intro R1 h1 z z' pU;refine aG.bnd (zu5 e pU) ?_;intro R2 h2 a a' ha;exact aG.ret (.pointer (.some ha))
variable {v v':aF}
theorem sim_box (e:aM)(h:VR S K R v v'):aG P S K (VA S K) (zjM e v) R (zjM e v'):=by
 unfold zjM;refine aG.bnd (zu5 e h) ?_;intro R2 h2 a a' ha;exact aG.ret (.pointer (.some ha))
theorem zHC (t:aM)(h:VR S K R v v'):aG P S K (VA S K) (zhX t v) R (zhX t v'):=by
 unfold zhX;refine aG.bnd (zbn h) ?_;intro R1 h1 a a' ha;exact zsV t ha
theorem zzK (t:aM){a a':aF}(h:VR S K R a a')(hv:VR S K R v v'):aG P S K l7 (zjI t a v) R (zjI t a' v'):=by
 unfold zjI;refine aG.bnd (zbn h) ?_;intro R1 h1 a a' ha;exact zCc t ha (hv.mono h1.le)
theorem zsl {r r':Nat}(h:R r r'):aG P S K (λ_ a b=>a=none/\b=none) (viewAt r) R (viewAt r'):=by
 unfold viewAt;refine aG.bnd (zbp h) ?_;rintro R1 h1 x _ rfl
 cases x with
 |some x=>exact aG.ret ⟨rfl,rfl⟩
 |none=>
  refine aG.bnd (Ux (h1.le _ _ h)) ?_;intro R2 h2 o o' ho;cases ho<;>exact aG.ret ⟨rfl,rfl⟩
variable {a a':bC}
theorem zAq (h:fR R a a'):aG P S K l7 (noView a) R (noView a'):=by
 cases h with
 |mk h=>
  unfold noView;refine aG.bnd (zsl h) ?_;rintro R1 h1 _ _ ⟨rfl,rfl⟩;exact aG.ret rfl
theorem Ry (h:fR R a a'):aG P S K l7 (byteOf a) R (byteOf a'):=by
 have h0:=h
 cases h with
 |mk h=>
  rename_i b b' o sp;unfold byteOf
  cases sp with
  |some s=>exact aG.ret rfl
  |none=>
   refine aG.bnd Uk ?_;rintro R1 h1 p q ⟨rfl,rfl⟩;refine aG.bnd (zAq (h0.mono h1.le)) ?_;rintro R2 h2 _ _ _;refine aG.bnd (zbp (h2.le _ _ (h1.le _ _ h))) ?_;rintro R3 h3 x _ rfl
   cases x with
   |none=>exact .inl bQ
   |some x=>
    obtain⟨e,n⟩:=x;simp only[P.cells_g,P.bytes_g,P.depth_g,P.byteOfCell_g];split
    .exact aG.ret rfl
    .split
     .exact aG.ret rfl
     .exact .inl bQ
theorem zyI (h:fR R a a')(c b:Nat):aG P S K (λR a b=>fR R a b) (partAt a c b) R (partAt a' c b):=by
 unfold partAt;refine aG.bnd (Ry h) ?_;rintro R1 h1 n _ rfl;have h':=h.mono h1.le
 cases h' with
 |mk h'=>
  refine aG.bnd (Ry (.mk h')) ?_;rintro R2 h2 m _ rfl;split<;>exact aG.ret (.mk (h2.le _ _ h'))
theorem zAR (h:fR R a a')(f:Field):aG P S K (λR a b=>fR R a b) (fieldPlace a f) R (fieldPlace a' f):=by
 unfold fieldPlace;refine aG.bnd (Bb f.type) ?_;rintro R1 h1 n _ rfl;split
 .exact zyI (h.mono h1.le) _ _
 .exact aG.ret ((h.mono h1.le).add _)
theorem zCL (s:aM)(h:VR S K R v v')(f:Nat):aG P S K (VA S K) (zjB s v f) R (zjB s v' f):=by
 unfold zjB;refine aG.bnd (mR s) ?_;rintro R1 h1 d _ ⟨rfl,hd⟩
 cases d with
 |struct fields=>
  simp only
  cases hf:fields[f]? with
  |none=>exact .inl bQ
  |some fl=>
   refine aG.bnd (zbn (h.mono h1.le)) ?_;intro R2 h2 a a' ha;refine aG.bnd (zAR ha fl) ?_;intro R3 h3 b b' hb;exact aG.ret (.pointer (.some hb))
 |_=>exact .inl bQ
def zif (t:aM)(k:C7)(i:Int)(b:Option bC)(len:Nat)(elem:aM):cY Value:=do
 let tiny:=len<=1&&(match<-underlying t with| .array .. =>true|_=>false)
 match b with
 |some a=>
  if 0<=i/\i<len then pure (.pointer (some (a.add (i.toNat*(<-sizeOf elem)))))
  else if tiny then unsupported (.noEntry "op/indexAddr.an index out of range at an array of length 0 or 1 (ledger 616)")
  else boundsPanic k i len .index
 |none=>boundsPanic k i 0 .index
theorem zqv (t:aM)(k:C7)(i:Int){b b':Option bC}(h:xX R b b')(len:Nat)(elem:aM):aG P S K (VA S K) (zif t k i b len elem) R (zif t k i b' len elem):=by
 unfold zif;refine aG.bnd (mR t) ?_;rintro R3 h3 d _ ⟨rfl,hd⟩;have bU:=h.mono h3.le
 cases bU with
 |none=>exact .inl Y0
 |some ha=>
  simp only;split
  .refine aG.bnd (Bb elem) ?_
   rintro R4 h4 sz _ rfl;exact aG.ret (.pointer (.some ((ha.mono h4.le).add _)))
  .refine .inl ?_
   split<;>first|exact lV|exact Y0|(split<;>first|exact lV|exact Y0)
theorem zHF (t:aM){i i':aF}(h:VR S K R v v')(hi:VR S K R i i'):aG P S K (VA S K) (zl1 t v i) R (zl1 t v' i'):=by
 unfold zl1;refine aG.bnd (zfq hi) ?_;rintro R1 h1 ⟨k,n⟩ _ rfl;refine aG.bnd (mR t) ?_;rintro R2 h2 d _ ⟨rfl,hd⟩;have hv:=(h.mono h1.le).mono h2.le
 cases d with
 |array len elem=>
  refine aG.bnd (zbn hv) ?_;intro R3 h3 a a' ha;exact zqv t k n (.some ha) len elem
 |slice elem=>
  cases hv with
  |slice ho=>exact zqv t k n ho _ elem
  |_=>exact .inl (bQ.bnd _)
 |_=>exact .inl (bQ.bnd _)
theorem zDB (t:aM){i i':aF}(h:VR S K R v v')(hi:VR S K R i i'):aG P S K (VA S K) (zkg t v i) R (zkg t v' i'):=by
 unfold zkg;refine aG.bnd (zfq hi) ?_;rintro R1 h1 ⟨k,n⟩ _ rfl;refine aG.bnd (mR t) ?_;rintro R2 h2 d _ ⟨rfl,hd⟩;have hv:=(h.mono h1.le).mono h2.le
 cases d with
 |array len elem=>
  cases hv with
  |agg e hc=>
   simp only;split
   .refine aG.bnd (Bb elem) ?_
    rintro R3 h3 sz _ rfl;exact zHQ elem (bM.mono h3.le ⟨e,hc⟩) _
   .exact .inl Y0
  |_=>exact .inl bQ
 |string=>
  cases hv with
  |string s=>
   simp only;split
   .exact aG.ret (.int _ _)
   .exact .inl Y0
  |_=>exact .inl bQ
 |_=>exact .inl bQ
theorem zb3 (h:VR S K R v v')(y:Nat)(c:zmv):aG P S K l7 (K8 v y c) R (K8 v' y c):=by
 unfold K8;refine aG.bnd (zfq h) ?_;rintro R1 h1 ⟨k,n⟩ _ rfl;simp only;split
 .exact aG.ret rfl
 .exact .inl Y0
inductive Ak (S:aQ->Prop)(K R:Pr):Option aF->Option aF->Prop
 |none:Ak S K R none none
 |some {v v':aF}:VR S K R v v'->Ak S K R (some v) (some v')
theorem Ak.mono {R':Pr}(h:R.le R'){v v':Option aF}(x:Ak S K R v v'):Ak S K R' v v':=by cases x with|none=>exact .none|some x=>exact .some (x.mono h)
variable {xR lU Y3:Option aF}
theorem zhn (b:Bool)(len cap:Nat){lo hi mx:Option aF}(hl:Ak S K R lo xR)(hh:Ak S K R hi lU)(hm:Ak S K R mx Y3):
 aG P S K l7 (Wj b len cap lo hi mx) R (Wj b len cap xR lU Y3):=by
 have nd:∀{R1:Pr},yQ P K R R1->∀(m h:Nat) (c:zmv),aG P S K (l7 (α:=Nat×Nat×Nat)) (match lo with|some v=>(do let l<-K8 v h c;pure (l,h,m))|none=>pure (0,h,m)) R1 (match xR with|some v=>(do let l<-K8 v h c;pure (l,h,m))|none=>pure (0,h,m)):=by
  intro R1 h1 m h c
  cases hl with
  |none=>exact aG.ret rfl
  |some z=>
   refine aG.bnd (zb3 (z.mono h1.le) h c) ?_;rintro R2 h2 l _ rfl;exact aG.ret rfl
 unfold Wj
 cases hm with
 |none=>
  cases hh with
  |none=>cases hl with
   |none=>exact aG.ret rfl
   |some z=>exact nd (yQ.refl R) cap len (if(none:Option aF).isSome then .slice3C else .sliceB)
  |some x=>
   refine aG.bind (α:=Nat) (A:=l7) (s:=K8 _ cap (if b then .sliceAcap else .sliceAlen)) (s':=K8 _ cap (if b then .sliceAcap else .sliceAlen)) (zb3 x _ _) ?_;rintro R2 h2 h _ rfl
   cases hl with
   |none=>exact aG.ret rfl
   |some z=>simp_all
 |some y=>
  refine aG.bnd (zb3 y _ _) ?_;rintro R1 h1 m _ rfl
  cases hh with
  |none=>exact .inl (bQ.bnd _)
  |some x=>
   refine aG.bnd (zb3 (x.mono h1.le) _ _) ?_;rintro R2 h2 h _ rfl
   cases hl with
   |none=>exact aG.ret rfl
   |some z=>
    refine aG.bnd (zb3 ((z.mono h1.le).mono h2.le) _ _) ?_;rintro R3 h3 l _ rfl;exact aG.ret rfl
theorem zCU (t:aM){lo hi mx:Option aF}(h:VR S K R v v')(hl:Ak S K R lo xR)(hh:Ak S K R hi lU)(hm:Ak S K R mx Y3):
 aG P S K (VA S K) (Y5 t v lo hi mx) R (Y5 t v' xR lU Y3):=by
 unfold Y5;refine aG.bnd (mR t) ?_;rintro R1 h1 d _ ⟨rfl,hd⟩;have hv:=h.mono h1.le
 cases d with
 |string=>
  cases hv with
  |string s=>
   simp only
   cases hm with
   |some y=>exact .inl (bQ.bnd _)
   |none=>
    refine aG.bnd (zhn _ _ _ (hl.mono h1.le) (hh.mono h1.le) .none) ?_;rintro R2 h2 ⟨l,h,m⟩ _ rfl;exact aG.ret (.string _)
  |_=>exact .inl bQ
 |slice elem=>
  cases hv with
  |slice ho=>
   refine aG.bnd (zhn _ _ _ (hl.mono h1.le) (hh.mono h1.le) (hm.mono h1.le)) ?_;rintro R2 h2 ⟨l,h,m⟩ _ rfl;refine aG.bnd (Bb elem) ?_;rintro R3 h3 sz _ rfl;refine aG.ret (.slice ?_);split
   .exact(ho.mono h2.le).mono h3.le
   .exact((ho.mono h2.le).mono h3.le).map _
  |_=>exact .inl bQ
 |pointer arr=>
  refine aG.bnd (zxW hv) ?_;intro R2 h2 a a' ha;refine aG.bnd (mR arr) ?_;rintro R3 h3 d _ ⟨rfl,hd⟩
  cases d with
  |array n elem=>
   refine aG.bnd (zhn _ _ _ (((hl.mono h1.le).mono h2.le).mono h3.le) (((hh.mono h1.le).mono h2.le).mono h3.le) (((hm.mono h1.le).mono h2.le).mono h3.le)) ?_;rintro R4 h4 ⟨l,h,m⟩ _ rfl;refine aG.bnd (Bb elem) ?_;rintro R5 h5 sz _ rfl;refine aG.ret (.slice (.some ?_));have fV:=((ha.mono h3.le).mono h4.le).mono h5.le;split
   .exact fV
   .exact fV.add _
  |_=>exact .inl bQ
 |_=>exact .inl bQ
theorem zH4 (t:aM){lo hi mx:Option aF}(h:VR S K R v v')(hl:Ak S K R lo xR)(hh:Ak S K R hi lU)(hm:Ak S K R mx Y3):
 aG P S K (VA S K) (Vv t v lo hi mx) R (Vv t v' xR lU Y3):=by
 unfold Vv;refine aG.bnd (mR t) ?_;rintro R1 h1 d _ ⟨rfl,hd⟩
 cases d with
 |array n elem=>
  refine aG.bnd (zbn (h.mono h1.le)) ?_;intro R2 h2 a a' ha;refine aG.bnd (zhn _ _ _ ((hl.mono h1.le).mono h2.le) ((hh.mono h1.le).mono h2.le) ((hm.mono h1.le).mono h2.le)) ?_;rintro R4 h4 ⟨l,h,m⟩ _ rfl;refine aG.bnd (Bb elem) ?_;rintro R5 h5 sz _ rfl;refine aG.ret (.slice (.some ?_));have fV:=(ha.mono h4.le).mono h5.le;split
  .exact fV
  .exact fV.add _
 |_=>exact zCU t (h.mono h1.le) (hl.mono h1.le) (hh.mono h1.le) (hm.mono h1.le)
theorem zFO (h:VR S K R v v')(i:Nat):aG P S K (VA S K) (zjk v i) R (zjk v' i):=by
 unfold zjk
 cases h with
 |tuple e hc=>
  rename_i xs b8;simp only
  cases hq:xs[i]? with
  |none=>exact .inl bQ
  |some u=>
   obtain⟨u',N6,zaD⟩:=bM.get ⟨e,hc⟩ hq;rw[N6];exact aG.ret zaD
 |_=>exact .inl bQ
theorem zzE (t:aM){r r':Option aF}(h:Ak S K R r r'):aG P S K (VA S K) (zic t r) R (zic t r'):=by
 have fin:∀{R1:Pr},aG P S K (VA S K) (do pure (.map (some (<-newObj (.map #[] 0))))) R1 (do pure (.map (some (<-newObj (.map #[] 0))))):=by
  intro R1;refine aG.bnd (zeJ (.map ⟨rfl,λi e e' h=>by simp at h⟩)) ?_;intro R2 h2 n n' hn;exact aG.ret (.map (.some hn))
 unfold zic
 cases h with
 |none=>exact fin
 |some x=>
  refine aG.bnd (mR t) ?_;rintro R1 h1 d _ ⟨rfl,hd⟩
  cases d with
  |map k e=>
   refine aG.bnd (Zl (x.mono h1.le)) ?_;simp_all
  |_=>exact .inl (bQ.bnd _)
theorem zzr (t:aM)(h:VR S K R v v'):aG P S K (VA S K) (zlB t v) R (zlB t v'):=by
 unfold zlB;refine aG.bnd (Zl h) ?_;rintro R1 h1 n _ rfl;refine aG.bnd (mR t) ?_;rintro R2 h2 d _ ⟨rfl,hd⟩
 cases d with
 |chan dir elem=>
  refine aG.bnd (Fb elem) ?_;rintro R3 h3 inf _ ⟨rfl,hi⟩;simp only;split
  .exact .inl (vX.bnd _)
  .refine aG.bnd (zeJ (.chan bM.empty)) ?_
   intro R4 h4 n n' hn;exact aG.ret (.chan (.some (.inl hn)))
 |_=>exact .inl bQ
end
section
variable {P:dM}{S:aQ->Prop}{K:Pr}{α β γ δ:Type}{R:Pr}
theorem Ft.eq_iff {R:Pr}(inj:∀a b c,R a b->R a c->b=c)(inj':∀a b c,R a c->R b c->a=b){a a' b b':Option Nat}(h:Ft R a a')(h':Ft R b b'):(a==b)=(a'==b'):=by
 cases h with
 |none=>cases h' with
  |none=>rfl
  |some y=>rfl
 |some x=>cases h' with
  |none=>rfl
  |some y=>grind
variable {r r':Nat}
theorem zlZ (h:R r r'):aG P S K (λR a b=>(a=none/\b=none)\/∃x x' l,a=some (x,l)/\b=some (x',l)/\fR R x x') (numberAt r) R (numberAt r'):=by
 unfold numberAt;refine aG.bnd (zbp h) ?_;rintro R1 h1 x _ rfl
 cases x with
 |some x=>exact aG.ret (.inl ⟨rfl,rfl⟩)
 |none=>
  refine aG.bnd (Ux (h1.le _ _ h)) ?_;intro R2 h2 o o' ho
  cases ho with
  |number ha=>exact aG.ret (.inr ⟨_,_,_,rfl,rfl,ha⟩)
  |_=>exact aG.ret (.inl ⟨rfl,rfl⟩)
variable {a a':bC}
theorem zsu (h:fR R a a'):aG P S K (λR x y=>fR R x.1 y.1) (behindNumber a) R (behindNumber a'):=by
 have h0:=h
 cases h with
 |mk h=>
  unfold behindNumber;refine aG.bnd (zlZ h) ?_;rintro R1 h1 x y (⟨rfl,rfl⟩|⟨p,p',l,rfl,rfl,hp⟩)
  .exact aG.ret (h0.mono h1.le)
  .exact aG.ret hp
def zbE:zcb->Bool
 | .bool| .int _| .string| .chan .. =>true
 |_=>false
theorem fR.block_eq (hR:uJ P K R){b b':bC}(h:fR R a a')(h':fR R b b'):(a.block==b.block)=(a'.block==b'.block):=by
 cases h with
 |mk x=>
  cases h' with
  |mk y=>
   rw[Nk];simp only[beq_iff_eq];exact⟨λe=>hR.inj _ _ _ (.inl (e▸x)) (.inl y),λe=>hR.inj' _ _ _ (.inl (e▸x)) (.inl y)⟩
def zDe (h:R r r'):aG P S K (λR' a b=>R'=R/\a=b) (shape r) R (shape r'):=.inr ⟨r',_,rfl,h,λx=>.inr ⟨x,rfl,rfl,rfl⟩⟩
def zyZ (h:R r r'):aG P S K (λR' o o'=>R'=R/\oS S K R o o') (getObj r) R (getObj r'):=.inr ⟨r',_,rfl,.inl h,λo o' ho=>.inr ⟨o',rfl,rfl,ho⟩⟩
def zio:aG P S K (λR' a b=>R'=R/\a=P.g/\b=P.c) program R program:=.inr ⟨_,rfl,.inr ⟨P.c,rfl,rfl,rfl,rfl⟩⟩
theorem zBL (h:R r r'):aG P S K (λR' a b=>R'=R/\((a=none/\b=none)\/∃x x' l,a=some (x,l)/\b=some (x',l)/\fR R x x')) (numberAt r) R (numberAt r'):=by
 unfold numberAt;refine aG.bnd (zDe h) ?_;rintro R1 _ x _ ⟨rfl,rfl⟩
 cases x with
 |some x=>exact aG.ret ⟨rfl,.inl ⟨rfl,rfl⟩⟩
 |none=>
  refine aG.bnd (zyZ h) ?_;rintro R2 _ o o' ⟨rfl,ho⟩
  cases ho with
  |number ha=>exact aG.ret ⟨rfl,.inr ⟨_,_,_,rfl,rfl,ha⟩⟩
  |_=>exact aG.ret ⟨rfl,.inl ⟨rfl,rfl⟩⟩
theorem zfM (h:fR R a a'):aG P S K (λR' x y=>R'=R/\fR R x.1 y.1) (behindNumber a) R (behindNumber a'):=by
 have h0:=h
 cases h with
 |mk h=>
  unfold behindNumber;refine aG.bnd (zBL h) ?_;rintro R1 _ x y ⟨rfl,⟨rfl,rfl⟩|⟨p,p',l,rfl,rfl,hp⟩⟩
  .exact aG.ret ⟨rfl,h0⟩
  .exact aG.ret ⟨rfl,hp⟩
theorem fR.low (hR:uJ P K R)(h:fR R a a'):decide (a.block<P.globals.size)=decide (a'.block<P.globals.size):=by
 cases h with
 |mk x=>exact decide_eq_decide.2 (hR.low _ _ x)
def ziH (P:dM)(t:aM):Prop:=∀i x,P.info? t=some i->i.desc≠ .named "sync.copyChecker" x
theorem zAZ {t:aM}(hc:ziH P t)(hR:uJ P K R){b b':bC}(ha:fR R a a')(hb:fR R b b'):
 aG P S K l7 (do
  let(a,b):=((<-behindNumber a).1,(<-behindNumber b).1)
  if a.block==b.block&&a.block<(<-program).globals.size then return (<-byteOf a)==(<-byteOf b)
  let .named "sync.copyChecker" _:=(<-typeInfo t).desc|unsupported .addressObserved
  if a==b then pure true else unsupported .addressObserved) R (do
  let(a,b):=((<-behindNumber a').1,(<-behindNumber b').1)
  if a.block==b.block&&a.block<(<-program).globals.size then return (<-byteOf a)==(<-byteOf b)
  let .named "sync.copyChecker" _:=(<-typeInfo t).desc|unsupported .addressObserved
  if a==b then pure true else unsupported .addressObserved):=by
 refine aG.bnd (zfM ha) ?_;rintro R1 _ x y ⟨rfl,hx⟩;refine aG.bnd (zfM hb) ?_;rintro R2 _ u v ⟨rfl,hu⟩;refine aG.bnd zio ?_;rintro R3 _ p q ⟨rfl,rfl,rfl⟩;rw[<-fR.block_eq hR hx hu,P.globals_g,<-fR.low hR hx];split
 .refine aG.bnd (Ry hx) ?_
  rintro R4 h4 m _ rfl;refine aG.bnd (Ry (hu.mono h4.le)) ?_;rintro R5 h5 m' _ rfl;exact aG.ret rfl
 .refine aG.bnd (Fb t) ?_
  rintro R4 h4 i _ ⟨rfl,hi⟩;refine .inl ?_;split
  .next e=>exact absurd e (hc i _ hi)
  .exact lV
theorem zCY (n:Nat)(t:aM)(d:zcb)(hd:P.underlying t=some d)(ok:zbE d=true)(hc:∀k,d=.int k->ziH P t)(hR:uJ P K R){x x' y y':aF}(hx:VR S K R x x')(hy:VR S K R y y'):
 aG P S K l7 (Dx (n+1) t x y) R (Dx (n+1) t x' y'):=by
 unfold Dx;refine aG.bnd (A:=λR' a b=>R'=R/\a=b/\P.underlying t=some a) (by
  unfold underlying;refine aG.bnd zio ?_;rintro R' _ a b ⟨rfl,ha,hb⟩;rw[ha,hb,P.underlying_g]
  cases h:P.c.underlying t with
  |some d=>exact aG.ret ⟨rfl,rfl,h⟩
  |none=>exact .inl bQ) ?_
 rintro R1 _ d' _ ⟨rfl,rfl,K7⟩;obtain rfl:d'=d:=by simp_all
 cases d' with
 |bool=>
  cases hx with
  |bool a=>cases hy with
   |bool b=>exact aG.ret rfl
   |_=>exact .inl bQ
  |_=>first|exact .inl bQ|(cases hy<;>exact .inl bQ)
 |string=>
  cases hx with
  |string a=>cases hy with
   |string b=>exact aG.ret rfl
   |_=>exact .inl bQ
  |_=>first|exact .inl bQ|(cases hy<;>exact .inl bQ)
 |chan dir el=>
  cases hx with
  |chan a=>cases hy with
   |chan b=>exact aG.ret (Ft.eq_iff hR.inj hR.inj' a b)
   |_=>exact .inl bQ
  |_=>first|exact .inl bQ|(cases hy<;>exact .inl bQ)
 |int ik=>
  cases hx with
  |int k a=>cases hy with
   |int k' b=>
    simp only;split
    .exact aG.ret rfl
    .exact .inl bQ
   |pointer q=>
    cases q with
    |none=>exact .inl ziZ
    |some q=>
     by_cases h0:a=0
     .subst h0;exact aG.ret rfl
     .refine .inl ?_
      split<;>first|exact lV|exact bQ|(exfalso;simp_all;done)
   |_=>exact .inl zli
  |pointer p=>cases p with
   |none=>cases hy<;>first|exact .inl lV|exact .inl bQ
   |some p=>
    cases hy with
    |int k' b=>
     by_cases h0:b=0
     .subst h0;exact aG.ret rfl
     .refine .inl ?_
      split<;>first|exact lV|exact bQ|(exfalso;simp_all;done)
    |pointer q=>
     cases q with
     |none=>exact .inl ziZ
     |some q=>exact zAZ (hc ik rfl) hR p q
    |_=>exact .inl ziZ
  |_=>cases hy<;>first|exact .inl bQ|exact .inl lV
 |_=>cases ok
end
section
variable {P:dM}{S:aQ->Prop}{K:Pr}{α β γ δ:Type}{R:Pr}
def Ko (S:aQ->Prop)(K R:Pr)(es eZ:List pJ):Prop:=es.length=eZ.length/\∀(i:Nat) (e e':pJ),es[i]? =some e->eZ[i]? =some e'->Cw S K R e e'
variable {es eZ:Array pJ}
theorem rT.toList (h:rT S K R es eZ):Ko S K R es.toList eZ.toList:=⟨by simpa using h.1,λi e e' h1 h2=>h.2 i e e' Wt Y2⟩
variable {e e':pJ}
theorem Ko.cons {es eZ:List pJ}(h:Ko S K R (e::es) (e'::eZ)):Cw S K R e e'/\Ko S K R es eZ:=
 ⟨h.2 0 e e' rfl rfl,by simpa using h.1,λi a b h1 h2=>h.2 (i+1) a b Wt Y2⟩
def Ko.mono {R':Pr}(hR:R.le R'){es eZ:List pJ}(h:Ko S K R es eZ):Ko S K R' es eZ:=⟨h.1,λi e e' h1 h2=>(h.2 i e e' h1 h2).mono hR⟩
theorem xX.eq_iff (hR:uJ P K R){a a' b b':Option bC}(h:xX R a a')(h':xX R b b'):(a==b)=(a'==b'):=by
 cases h with
 |none=>cases h' with
  |none=>rfl
  |some y=>rfl
 |some x=>cases h' with
  |none=>rfl
  |some y=>
   cases x with
   |mk x=>
    cases y with
    |mk y=>
     rw[Nk];simp only[beq_iff_eq,jP,bC.mk.injEq];exact⟨λe=>⟨hR.inj _ _ _ (.inl (e.1▸x)) (.inl y),e.2⟩,λe=>⟨hR.inj' _ _ _ (.inl (e.1▸x)) (.inl y),e.2⟩⟩
def Flat:aF->Prop
 | .tuple _| .agg _| .iface _ _| .nilFunc=>False
 |_=>True
variable {x x' y:aF}
theorem zGx (hR:uJ P K R)(n:Nat){y':aF}(fx:Flat x)(fy:Flat y)(hx:VR S K R x x')(hy:VR S K R y y'):zbm n x y=zbm n x' y':=by
 cases n<;>(
  cases hx with
  |pointer h1=>cases hy with
   |pointer h2=>exact xX.eq_iff hR h1 h2
   |junk h=>exact fy.elim
   |_=>rfl
  |chan h1=>cases hy with
   |chan h2=>exact Ft.eq_iff hR.inj hR.inj' h1 h2
   |junk h=>exact fy.elim
   |_=>rfl
  |junk h=>exact fx.elim
  |iface h1=>exact fx.elim
  |agg h1=>exact fx.elim
  |tuple h1=>exact fx.elim
  |_=>cases hy<;>first|rfl|exact fy.elim)
variable {t:aM}{d:zcb}
theorem zkv (hd:P.underlying t=some d)(ok:zbE d=true)(h:¬(Flat x/\Flat y)):fA P (zS t x y):=by
 have e:zS t x y=Dx (9999+1) t x y:=rfl;rw[e];unfold Dx;have hu:∀w,(underlying t).run P.g w=.ok d w:=λw=>by
  have:P.g.underlying t=some d:=hd;simp[underlying,program,bL,bind,cY.bind,pure,this]
 have key:∀{f:zcb->cY Bool},fA P (f d)->fA P (underlying t>>=f):=λ{f} hf w hw=>by
  obtain⟨h1,w1,h2,h3⟩:=hf w hw;refine⟨h1,w1,?_,h3⟩;have:=uR P.g (underlying t) f w;rw[hu] at this;exact this.trans h2
 refine key ?_;cases d<;>first|(cases ok;done)|skip
 all_goals(cases x<;>cases y<;>first
  |exact(h ⟨True.intro,True.intro⟩).elim
  |exact bQ
  |exact lV
  |(split<;>first|exact bQ|exact lV|(simp_all;done)))
theorem zyD {b:Bool}(h:wP d x y=some b):Flat x/\Flat y:=by
 cases x<;>cases d<;>first|(simp[wP] at h;done)|(cases y<;>first|exact⟨trivial,trivial⟩|(simp[wP] at h;done))
variable {k k':aF}
theorem zDH (d:zcb){e e':aF}(f1:Flat k)(f2:Flat e)(hk:VR S K R k k')(he:VR S K R e e'):wP d k e=wP d k' e':=by
 cases hk with
 |junk _=>exact f1.elim
 |int i n=>cases he with
  |int i n=>rfl
  |junk _=>exact f2.elim
  |_=>cases d<;>rfl
 |string s=>cases he with
  |string s=>rfl
  |junk _=>exact f2.elim
  |_=>cases d<;>rfl
 |bool s=>cases he with
  |bool s=>rfl
  |junk _=>exact f2.elim
  |_=>cases d<;>rfl
 |_=>cases d<;>rfl
inductive OfR (S:aQ->Prop)(K R:Pr)(F:Nat->Prop):Option (Nat×aF)->Option (Nat×aF)->Prop
 |none:OfR S K R F none none
 |some {i:Nat} {v v':aF}:VR S K R v v'->F i->OfR S K R F (some (i,v)) (some (i,v'))
structure Mb (P:dM)(t:aM):Prop where
 ex:∃d,P.underlying t=some d/\zbE d=true
 nc:∀k,P.underlying t=some (.int k)->ziH P t
theorem zhM (ht:Mb P t)(hR:uJ P K R){y':aF}(hx:VR S K R x x')(hy:VR S K R y y'):aG P S K l7 (zS t x y) R (zS t x' y'):=by
 obtain⟨d,hd,ok⟩:=ht.ex;have e:∀a b,zS t a b=Dx (9999+1) t a b:=λa b=>rfl;rw[e,e];exact zCY 9999 t d hd ok (λk e=>ht.nc k (e▸hd)) hR hx hy
theorem zHI (hd:P.underlying t=some d)(h:wP d x y=some false)(w:aE):(zS t x y).run P.g w=.ok false w:=by
 have e:zS t x y=Dx (9999+1) t x y:=rfl;have hg:P.g.underlying t=some d:=hd;have hu:(underlying t).run P.g w=.ok d w:=by simp[underlying,program,bL,bind,cY.bind,pure,hg]
 rw[e];unfold Dx;refine(uR P.g (underlying t) _ w).trans ?_;rw[hu]
 cases x with
 |bool a=>
  cases d with
  |bool=>
   cases y with
   |bool b=>
    have h':(a==b)=false:=by simpa[wP] using h
    show bL P.g (pure (a==b)) w=_;rw[h'];rfl
   |_=>simp[wP] at h
  |_=>simp[wP] at h
 |string a=>
  cases d with
  |string=>
   cases y with
   |string b=>
    have h':(a==b)=false:=by simpa[wP] using h
    show bL P.g (pure (a==b)) w=_;rw[h'];rfl
   |_=>simp[wP] at h
  |_=>simp[wP] at h
 |int k a=>
  cases d with
  |int dk=>
   cases y with
   |int k' b=>
    simp only[wP] at h;split at h
    .next hk=>
     have h':(a==b)=false:=by simpa using h
     show bL P.g (if k=k' then pure (a==b) else stuck "==: kinds differ") w=_;rw[if_pos hk,h'];rfl
    .cases h
   |_=>simp[wP] at h
  |_=>simp[wP] at h
 |_=>cases d<;>simp[wP] at h
theorem zw4 (hd:P.underlying t=some d)(ok:zbE d=true)(hk:VR S K R k k'){F:Nat->Prop}:∀(es eZ:List pJ) (i:Nat),Ko S K R es eZ->(∀j e,es[j]? =some e->Flat k->Flat e.key->F (i+j))->
 (Hl d k es i=none/\fA P (Lo t k es i))\/(Hl d k es i=none/\Hl d k' eZ i=none)\/∃r r',Hl d k es i=some r/\Hl d k' eZ i=some r'/\OfR S K R F r r'
 |[],[],i,h,_=>.inr (.inr ⟨_,_,rfl,rfl,.none⟩)
 |[],_::_,i,h,_=>by have:=h.1;simp at this
 |_::_,[],i,h,_=>by have:=h.1;simp at this
 |e::es,e'::eZ,i,h,hF=>by
  obtain⟨h1,h2⟩:=h.cons
  cases h1 with
  |mk qO hv=>
   rename_i ek ek' ev ev' born;by_cases hf:Flat k/\Flat ek
   .unfold Hl
    simp only[<-zDH d hf.1 hf.2 hk qO]
    cases hs:wP d k ek with
    |none=>simp_all
    |some b=>cases b with
     |true=>exact .inr (.inr ⟨_,_,rfl,rfl,.some hv zoG⟩)
     |false=>
      rcases zw4 hd ok hk es eZ (i+1) h2 (λj e he a b=>by have:=hF (j+1) e (by simpa using he) a b;rwa [show i+1+j=i+(j+1) by omega]) with⟨hq,hn⟩|hr
      .refine .inl ⟨hq,λw hw=>?_⟩
       obtain⟨hh,w1,q1,q2⟩:=hn w hw;refine⟨hh,w1,?_,q2⟩;unfold Lo;refine(uR P.g _ _ w).trans ?_;rw[zHI hd hs w];exact q1
      .exact .inr hr
   .refine .inl ⟨?_,?_⟩
    .unfold Hl
     cases hs:wP d k ek with
     |none=>rfl
     |some b=>exact absurd (zyD hs) hf
    .unfold Lo
     exact(zkv hd ok hf).bnd _
theorem zo2 (ht:Mb P t):∀(es eZ:List pJ) (i:Nat) {R:Pr} {k k':aF} {F:Nat->Prop},uJ P K R->VR S K R k k'->Ko S K R es eZ->(∀j e,es[j]? =some e->Flat k->Flat e.key->F (i+j))->
 aG P S K (λR' a b=>OfR S K R' F a b) (Lo t k es i) R (Lo t k' eZ i)
 |[],[],i,R,k,k',F,hR,hk,h,hF=>aG.ret .none
 |[],_::_,i,R,k,k',F,hR,hk,h,hF=>by have:=h.1;simp at this
 |_::_,[],i,R,k,k',F,hR,hk,h,hF=>by have:=h.1;simp at this
 |e::es,e'::eZ,i,R,k,k',F,hR,hk,h,hF=>by
  obtain⟨h1,h2⟩:=h.cons
  cases h1 with
  |mk qO hv=>
   rename_i ek ek' ev ev' born;by_cases hf:Flat k/\Flat ek
   rotate_left
   .obtain⟨d,hd,ok⟩:=ht.ex
    refine .inl ?_;unfold Lo;exact(zkv hd ok hf).bnd _
   unfold Lo;refine aG.bnd (zhM ht hR hk qO) ?_;rintro R1 hx b _ rfl
   cases b with
   |true=>exact aG.ret (.some (hv.mono hx.le) zoG)
   |false=>exact zo2 ht es eZ (i+1) (hx.ok hR) (hk.mono hx.le) (h2.mono hx.le) (λj e he a b=>by have:=hF (j+1) e (by simpa using he) a b;rwa [show i+1+j=i+(j+1) by omega])
variable {i:Nat}
theorem rT.get (h:rT S K R es eZ)(hi:es[i]? =some e):∃e',eZ[i]? =some e'/\Cw S K R e e':=by
 have:i<eZ.size:=by rw[<-h.1];exact(eB.1 hi).1
 exact⟨_,pS this,h.2 i e _ hi (pS this)⟩
theorem rT.none (h:rT S K R es eZ)(hi:es[i]? =none):eZ[i]? =none:=by
 rw[zuS] at hi⊢;rw[<-h.1];exact hi
theorem rT.modify (h:rT S K R es eZ)(i:Nat){f f':pJ->pJ}(hf:∀e e',Cw S K R e e'->Cw S K R (f e) (f' e')):rT S K R (es.modify i f) (eZ.modify i f'):=by
 refine⟨by simpa using h.1,λk e e' h1 h2=>?_⟩;rw[zsw] at h1 h2;split at h1
 .next e1=>
  rw[if_pos e1] at h2
  cases q:es[k]? with
  |none=>rw[q] at h1;cases h1
  |some u=>
   obtain⟨u',q',r⟩:=h.get q
   grind
 .next e1=>
  rw[if_neg e1] at h2;exact h.2 k e e' h1 h2
theorem rT.push (h:rT S K R es eZ)(he:Cw S K R e e'):rT S K R (es.push e) (eZ.push e'):=by
 refine⟨by simpa using h.1,λk a a' h1 h2=>?_⟩;rw[zlr] at h1 h2;rw[<-h.1] at h2;split at h1
 .simp_all
 .next e1=>
  rw[if_neg e1] at h2;exact h.2 k a a' h1 h2
theorem rT.erase (h:rT S K R es eZ)(i:Nat):rT S K R (es.eraseIdxIfInBounds i) (eZ.eraseIdxIfInBounds i):=by
 unfold Array.eraseIdxIfInBounds;split
 .next hi=>
  have lU:i<eZ.size:=h.1▸hi;rw[dif_pos lU];refine⟨by simp[h.1],λk a a' h1 h2=>?_⟩;rw[Array.getElem?_eraseIdx] at h1 h2;split at h1
  .next e1=>rw[if_pos e1] at h2;exact h.2 _ _ _ h1 h2
  .next e1=>rw[if_neg e1] at h2;exact h.2 _ _ _ h1 h2
 .next hi=>
  have lU:¬i<eZ.size:=h.1▸hi
  grind
theorem zjg (ht:Mb P t)(hR:uJ P K R)(hk:VR S K R k k'){es eZ:List pJ}(he:Ko S K R es eZ):
 aG P S K (λR' a b=>OfR S K R' (λi=>Flat k/\∀e,es[i]? =some e->Flat e.key) a b) (Ly t k es) R (Ly t k' eZ):=by
 unfold Ly;refine aG.bnd (mR t) ?_;rintro R1 h1 d _ ⟨rfl,hd⟩;obtain⟨d',K7,ok⟩:=ht.ex;obtain rfl:d'=d:=by simp_all
 have hF:∀j e,es[j]? =some e->Flat k->Flat e.key->Flat k/\∀e,es[0+j]? =some e->Flat e.key:=λj e he a b=>⟨a,λe2 zLd=>by simp_all⟩;rcases zw4 (F:=λi=>Flat k/\∀e,es[i]? =some e->Flat e.key) hd ok (hk.mono h1.le) es eZ 0 (he.mono h1.le) hF with⟨e1,hn⟩|⟨e1,e2⟩|⟨r,r',e1,e2,h⟩
 .rw[e1]
  exact .inl hn
 .rw[e1,e2]
  exact zo2 ht es eZ 0 (h1.ok hR) (hk.mono h1.le) (he.mono h1.le) hF
 .rw[e1,e2]
  exact aG.ret h
theorem zIC (n:Nat)(ht:Mb P t)(b:Bool)(k k':aF):aG P S K l7 (Hy b (n+1) t k) R (Hy b (n+1) t k'):=by
 obtain⟨d,hd,ok⟩:=ht.ex;unfold Hy;refine aG.bnd (mR t) ?_;rintro R1 h1 d' _ ⟨rfl,K7⟩;obtain rfl:d'=d:=by simp_all
 cases d' with
 |interface _=>cases ok
 |array _ _=>cases ok
 |struct _=>cases ok
 |_=>exact aG.ret rfl
def zhr (ht:Mb P t)(b:Bool)(k k':aF):aG P S K l7 (Hy b 10000 t k) R (Hy b 10000 t k'):=zIC 9999 ht b k k'
theorem zDV (hR:uJ P K R){a a' b b':aF}(fa:Flat a)(fb:Flat b)(ha:VR S K R a a')(hb:VR S K R b b'):aG P S K (VA S K) (Px a b) R (Px a' b'):=by
 unfold Px;rw[zGx hR 10000 fa fb ha hb];split
 .exact aG.ret hb
 .refine aG.bnd (zfT _) ?_
  rintro R1 h1 n _ rfl;refine aG.ret ?_;split
  .exact hb.mono h1.le
  .exact ha.mono h1.le
theorem rT.keyD (h:rT S K R es eZ)(i:Nat)(hk:VR S K R k k'):VR S K R (((es[i]?).map (·.key)).getD k) (((eZ[i]?).map (·.key)).getD k'):=by
 cases q:es[i]? with
 |none=>rw[h.none q];exact hk
 |some e=>
  obtain⟨e',q',r⟩:=h.get q;rw[q']
  cases r with
  |mk a b=>exact a
theorem zFA (h:Flat k/\∀e,es.toList[i]? =some e->Flat e.key):Flat (((es[i]?).map (·.key)).getD k):=by grind
theorem rT.isEmpty (h:rT S K R es eZ):es.isEmpty=eZ.isEmpty:=by simp[Array.isEmpty,h.1]
theorem zEn (hz:J6 P S)(ht:∀k e,P.underlying t=some (.map k e)->Mb P k)(hR:uJ P K R)(hx:VR S K R x x')(hk:VR S K R k k')(c:Bool):
 aG P S K (VA S K) (zZ t x k c) R (zZ t x' k' c):=by
 unfold zZ;refine aG.bnd (mR t) ?_;rintro R1 h1 d _ ⟨rfl,hd⟩
 cases d with
 |map kt el=>
  have hK:=ht kt el hd
  have tail:∀R2,yQ P K R1 R2->∀es eZ,rT S K R2 es eZ->aG P S K (VA S K)
   (do
    Hy es.isEmpty 10000 kt k
    let r<-Ly kt k es.toList
    match r with
    |some (_,v)=>do let x<-pure (v,true);pure (if c=true then Ym #[x.fst,.bool x.snd] else x.fst)
    |none=>do let z<-zeroValue el;let x<-pure (z,false);pure (if c=true then Ym #[x.fst,.bool x.snd] else x.fst)) R2
   (do
    Hy eZ.isEmpty 10000 kt k'
    let r<-Ly kt k' eZ.toList
    match r with
    |some (_,v)=>do let x<-pure (v,true);pure (if c=true then Ym #[x.fst,.bool x.snd] else x.fst)
    |none=>do let z<-zeroValue el;let x<-pure (z,false);pure (if c=true then Ym #[x.fst,.bool x.snd] else x.fst)):=by
   intro R2 h2 es eZ he;rw[he.isEmpty];refine aG.bnd (zhr hK _ _ _) ?_;rintro R3 h3 _ _ rfl;have Vn:=h3.ok (h2.ok (h1.ok hR));have J3:=((hk.mono h1.le).mono h2.le).mono h3.le;have fin:∀{R5:Pr} {v v':aF} {b:Bool},VR S K R5 v v'->aG P S K (VA S K) (do let x<-pure (v,b);pure (if c=true then Ym #[x.fst,.bool x.snd] else x.fst)) R5 (do let x<-pure (v',b);pure (if c=true then Ym #[x.fst,.bool x.snd] else x.fst)):=by
    intro R5 v v' b hv;refine aG.bnd (aG.ret (A:=λR (a b:aF×Bool)=>VR S K R a.1 b.1/\a.2=b.2) ⟨hv,rfl⟩) ?_;rintro R5 h5 ⟨v,b⟩ ⟨v',b'⟩ ⟨hv,e⟩;cases e
    cases c with
    |true=>exact aG.ret (VR.tuple' ((bM.empty.push hv).push (.bool b)))
    |false=>exact aG.ret hv
   refine aG.bnd (zjg hK Vn J3 (he.mono h3.le).toList) ?_;intro R4 h4 r r' hr
   cases hr with
   |some hv=>exact fin hv
   |none=>
    refine aG.bnd (Qi hz el) ?_;simp_all
  cases hx with
  |map h=>
   cases h with
   |none=>exact aG.bnd (aG.ret (A:=λR a b=>rT S K R a b) ⟨rfl,λi e e' h=>by simp at h⟩) tail
   |some h=>
    refine aG.bnd (Ux (h1.le _ _ h)) ?_;intro R2 h2 o o' ho
    cases ho with
    |map he=>grind
    |_=>exact .inl (bQ.bnd _)
  |_=>exact .inl (bQ.bnd _)
 |_=>exact .inl bQ
theorem zBc (ht:∀k e,P.underlying t=some (.map k e)->Mb P k)(hR:uJ P K R){v v':aF}(hx:VR S K R x x')(hk:VR S K R k k')(hv:VR S K R v v'):
 aG P S K l7 (G5 t x k v) R (G5 t x' k' v'):=by
 unfold G5;refine aG.bnd (mR t) ?_;rintro R1 h1 d _ ⟨rfl,hd⟩
 cases d with
 |map kt el=>
  have hK:=ht kt el hd
  cases hx with
  |map h=>
   cases h with
   |none=>exact .inl vX
   |some h=>
    refine aG.bnd (Ux (h1.le _ _ h)) ?_;intro R2 h2 o o' ho
    cases ho with
    |map he=>
     rename_i cl;refine aG.bnd (zhr hK _ _ _) ?_;rintro R3 h3 _ _ rfl;have Vn:=h3.ok (h2.ok (h1.ok hR));have J3:=((hk.mono h1.le).mono h2.le).mono h3.le;have Fj:=h3.le _ _ (h2.le _ _ (h1.le _ _ h));have Hv:=((hv.mono h1.le).mono h2.le).mono h3.le;refine aG.bnd (zjg hK Vn J3 (he.mono h3.le).toList) ?_;intro R4 h4 r r' hr
     cases hr with
     |some hq zgg=>
      refine aG.bnd (zDV (h4.ok Vn) (zFA zgg) zgg.1 (((he.mono h3.le).mono h4.le).keyD _ (J3.mono h4.le)) (J3.mono h4.le)) ?_;intro R5 h5 kk Ir gA;refine zbH (h5.le _ _ (h4.le _ _ Fj)) (.map (rT.modify (((he.mono h3.le).mono h4.le).mono h5.le) _ ?_));intro e e' zCS
      cases zCS with
      |mk a b=>exact .mk gA ((Hv.mono h4.le).mono h5.le)
     |none=>exact zbH (h4.le _ _ Fj) (.map (rT.push ((he.mono h3.le).mono h4.le) (.mk (J3.mono h4.le) (Hv.mono h4.le))))
    |_=>exact .inl bQ
  |_=>exact .inl bQ
 |_=>exact .inl bQ
end
section
variable {P:dM}{S:aQ->Prop}{K:Pr}{α β γ δ:Type}{R:Pr}
variable {xs b8:Array aF}
theorem bM.opt (h:bM S K R xs b8)(i:Nat):Ak S K R xs[i]? b8[i]? :=by
 cases q:xs[i]? with
 |none=>rw[h.none q];exact .none
 |some v=>obtain⟨v',q',hv⟩:=h.get q;rw[q'];exact .some hv
theorem sim_len (ts:Array aM)(t:aM)(h:bM S K R xs b8):aG P S K (VA S K) (zmp ts t xs) R (zmp ts t b8):=by
 unfold zmp
 cases ts[0]? with
 |none=>exact .inl bQ
 |some t=>
  have ho:=h.opt 0;generalize xs[0]? =o at ho;generalize b8[0]? =o' at ho
  cases ho with
  |none=>exact .inl bQ
  |some hv=>
   simp only;refine aG.bnd (mR t) ?_;rintro R1 h1 d _ ⟨rfl,hd⟩
   cases d with
   |string=>cases hv with
    |string s=>exact aG.ret (.int _ _)
    |_=>exact .inl bQ
   |array n e=>exact aG.ret (.int _ _)
   |pointer arr=>
    refine aG.bnd (mR arr) ?_;rintro R2 h2 d2 _ ⟨rfl,Bv⟩
    cases d2 with
    |array n e=>exact aG.ret (.int _ _)
    |_=>exact .inl bQ
   |slice e=>cases hv with
    |slice _=>exact aG.ret (.int _ _)
    |_=>exact .inl bQ
   |map k e=>cases hv with
    |map hm=>cases hm with
     |none=>exact aG.ret (.int _ _)
     |some hm=>
      refine aG.bnd (Ux (h1.le _ _ hm)) ?_;intro R2 h2 o o' ho
      cases ho with
      |map he=>simp only;rw[he.1];exact aG.ret (.int _ _)
      |_=>exact .inl bQ
    |_=>exact .inl bQ
   |chan k e=>cases hv with
    |chan hm=>cases hm with
     |none=>exact aG.ret (.int _ _)
     |some hm=>
      refine aG.bnd (zsi (hm.imp (h1.le _ _) id)) ?_;intro R2 h2 o o' ho
      cases ho with
      |chan he=>simp only;rw[he.1];exact aG.ret (.int _ _)
      |_=>exact .inl bQ
    |_=>exact .inl bQ
   |_=>exact .inl bQ
theorem sim_cap (ts:Array aM)(t:aM)(h:bM S K R xs b8):aG P S K (VA S K) (zjm ts t xs) R (zjm ts t b8):=by
 unfold zjm
 cases ts[0]? with
 |none=>exact .inl bQ
 |some t=>
  have ho:=h.opt 0;generalize xs[0]? =o at ho;generalize b8[0]? =o' at ho
  cases ho with
  |none=>exact .inl bQ
  |some hv=>
   simp only;refine aG.bnd (mR t) ?_;rintro R1 h1 d _ ⟨rfl,hd⟩
   cases d with
   |array n e=>exact aG.ret (.int _ _)
   |pointer arr=>
    refine aG.bnd (mR arr) ?_;rintro R2 h2 d2 _ ⟨rfl,Bv⟩
    cases d2 with
    |array n e=>exact aG.ret (.int _ _)
    |_=>exact .inl bQ
   |slice e=>cases hv with
    |slice _=>exact aG.ret (.int _ _)
    |_=>exact .inl bQ
   |chan k e=>cases hv with
    |chan hm=>cases hm with
     |none=>exact aG.ret (.int _ _)
     |some hm=>
      refine aG.bnd (zsi (hm.imp (h1.le _ _) id)) ?_;intro R2 h2 o o' ho
      cases ho with
      |chan he=>exact aG.ret (.int _ _)
      |_=>exact .inl bQ
    |_=>exact .inl bQ
   |_=>exact .inl bQ
variable {ts:Array aM}
theorem zBD (t:aM)(ht:∀mt k e,ts[0]? =some mt->P.underlying mt=some (.map k e)->Mb P k)(hR:uJ P K R)(h:bM S K R xs b8):
 aG P S K (VA S K) (Lu ts t xs) R (Lu ts t b8):=by
 unfold Lu
 cases e0:ts[0]? with
 |none=>exact .inl bQ
 |some mt=>
  have ho:=h.opt 0;have y7:=h.opt 1;generalize xs[0]? =o at ho;generalize b8[0]? =o' at ho;generalize xs[1]? =p at y7;generalize b8[1]? =p' at y7
  cases ho with
  |none=>exact .inl bQ
  |some hm=>
   cases y7 with
   |none=>exact .inl bQ
   |some hk=>
    simp only;refine aG.bnd (mR mt) ?_;rintro R1 h1 d _ ⟨rfl,hd⟩
    cases d with
    |map kt el=>
     have hK:=ht mt kt el e0 hd;have fin:∀{R2:Pr},aG P S K (VA S K) (pure (.tuple #[])) R2 (pure (.tuple #[])):=aG.ret (VR.tuple' bM.empty)
     cases hm with
     |map hm=>
      cases hm with
      |none=>exact aG.bnd (zhr hK _ _ _) (λ_ _ _ _ _=>fin)
      |some hm=>
       refine aG.bnd (Ux (h1.le _ _ hm)) ?_;intro R2 h2 o o' ho
       cases ho with
       |map he=>
        simp only;rw[he.isEmpty];refine aG.bnd (zhr hK _ _ _) ?_;rintro R3 h3 _ _ rfl;have Vn:=h3.ok (h2.ok (h1.ok hR));have J3:=((hk.mono h1.le).mono h2.le).mono h3.le;have Fj:=h3.le _ _ (h2.le _ _ (h1.le _ _ hm));refine aG.bnd (zjg hK Vn J3 (he.mono h3.le).toList) ?_;intro R4 h4 r r' hr
        cases hr with
        |some hq=>exact aG.bnd (zbH (h4.le _ _ Fj) (.map (((he.mono h3.le).mono h4.le).erase _))) (λ_ _ _ _ _=>fin)
        |none=>exact aG.bnd (zbH (h4.le _ _ Fj) (.map ((he.mono h3.le).mono h4.le))) (λ_ _ _ _ _=>fin)
       |_=>exact .inl (bQ.bnd _)
     |_=>exact .inl (bQ.bnd _)
    |_=>exact .inl bQ
variable {x':aF}
theorem zrh {x:aF}(h:VR S K R x x'):aG P S K l7 (zqV x) R (zqV x'):=by
 cases h with
 |slice _=>exact aG.ret rfl
 |string s=>exact aG.ret rfl
 |_=>exact .inl bQ
theorem zbX (size n:Nat){x:aF}(h:VR S K R x x'):aG P S K (λR a b=>bM S K R a b) (Tc size n x) R (Tc size n x'):=by
 cases h with
 |slice ha=>cases ha with
  |none=>exact aG.ret bM.empty
  |some ha=>exact zkB ha _
 |string s=>
  refine aG.ret ⟨rfl,λi v v' h1 h2=>?_⟩;rw[h1] at h2;injection h2 with e;subst e;rw[Cy] at h1
  cases q:(s.extract 0 n).data[i]? with
  |none=>rw[q] at h1;cases h1
  |some b=>rw[q] at h1;cases h1;exact .int _ _
 |_=>exact .inl bQ
theorem zgy {z z':Array aF}(h:bM S K R z z')(n:Nat):bM S K R (qJ z n) (qJ z' n):=by
 refine⟨by simp[qJ,h.1],λi v v' h1 h2=>?_⟩;unfold qJ at h1 h2;rw[Cy] at h1 h2;rw[<-h.1] at h2
 cases q:(Nw (n*z.size))[i]? with
 |none=>rw[q] at h1;cases h1
 |some j=>
  rw[q] at h1 h2;cases h1;cases h2
  cases q1:z[j%z.size]? with
  |none=>
   have q2:=h.none q1;show VR S K R (z[j%z.size]!) (z'[j%z.size]!);rw[getElem!_def,getElem!_def,q1,q2];exact .bool false
  |some u=>
   obtain⟨u',q2,hu⟩:=h.get q1
   grind
theorem zCP {A:Pr->γ->δ->Prop}{F:Bool->cY γ}{F':Bool->cY δ}(o:Option aM)(hi:∀xt d,o=some xt->P.underlying xt=some d->∀k,d≠ .int k)(hF:∀R3,yQ P K R R3->aG P S K A (F false) R3 (F' false)):
 aG P S K A (match(generalizing:=false) o with|some xt=>do let l<-underlying xt;let zeros<-pure (match l with| .int k=>true|x=>false);F zeros|none=>do let zeros<-pure false;F zeros) R
  (match(generalizing:=false) o with|some xt=>do let l<-underlying xt;let zeros<-pure (match l with| .int k=>true|x=>false);F' zeros|none=>do let zeros<-pure false;F' zeros):=by
 cases o with
 |none=>
  refine aG.bnd (aG.ret (A:=λ_ a b=>a=false/\b=false) ⟨rfl,rfl⟩) ?_;simp_all
 |some xt=>
  refine aG.bnd (mR xt) ?_;simp_all
theorem zGW (hz:J6 P S)(t:aM)(hi:∀xt d,ts[1]? =some xt->P.underlying xt=some d->∀k,d≠ .int k)(h:bM S K R xs b8):
 aG P S K (VA S K) (xV ts t xs) R (xV ts t b8):=by
 unfold xV
 cases e0:ts[0]? with
 |none=>exact .inl bQ
 |some st=>
  have ho:=h.opt 0;have y7:=h.opt 1;generalize xs[0]? =o at ho;generalize b8[0]? =o' at ho;generalize xs[1]? =p at y7;generalize b8[1]? =p' at y7
  cases ho with
  |none=>exact .inl bQ
  |some hs=>
   cases y7 with
   |none=>exact .inl bQ
   |some hx=>
    rename_i s s' x x';simp only;refine aG.bnd (mR st) ?_;rintro R1 h1 d _ ⟨rfl,hd⟩
    cases d with
    |slice elem=>
     cases hs with
     |slice hb=>
      rename_i b b' n c;refine aG.bnd (Bb elem) ?_;rintro R2 h2 size _ rfl;have rL:=(hb.mono h1.le).mono h2.le;have Ah:=(hx.mono h1.le).mono h2.le;refine zCP ts[1]? hi ?_;intro R3 h3;simp only[Bool.not_false,if_true,iX,if_false,false_or];refine aG.bnd (zrh (Ah.mono h3.le)) ?_;rintro R4 h4 m _ rfl;have Jt:=(rL.mono h3.le).mono h4.le;have zs8:=(Ah.mono h3.le).mono h4.le;split
      .refine aG.bnd (zbX size m zs8) ?_
       intro R5 h5 w w' hw;have za4:=Jt.mono h5.le
       cases za4 with
       |none=>exact aG.ret (.slice .none)
       |some ha=>
        refine aG.bnd (Zd _ _ 0 (ha.add _) hw.toList) ?_;rintro R6 h6 _ _ rfl;exact aG.ret (.slice (.some (ha.mono h6.le)))
      .refine aG.bnd (Fb elem) ?_
       rintro R5 h5 inf _ ⟨rfl,zJg⟩;split
       .exact .inl (vX.bnd _)
       .refine aG.bnd (Fb elem) ?_
        rintro R6 h6 zFg _ ⟨rfl,zu1⟩;have uE:=(Jt.mono h5.le).mono h6.le;have zqn:=(zs8.mono h5.le).mono h6.le;split
        .refine .inl (fA.bnd (fA.then (zB2 _ _ _ _ _) λsh=>?_) _)
         split
         .exact fA.then (zHm _) λ_=>lV
         .exact lV
        .refine aG.bnd (zfT _) ?_
         rintro R7 h7 nc _ rfl;refine aG.bnd (Fb elem) ?_;rintro R8 h8 zBd _ ⟨rfl,zyM⟩;refine aG.bnd (zk1 _) ?_;rintro R9 h9 _ _ rfl;have x9:=((uE.mono h7.le).mono h8.le).mono h9.le;have zEz:=((zqn.mono h7.le).mono h8.le).mono h9.le;refine aG.bnd (zbX size n (.slice x9)) ?_;intro zEG Zj o o' ho;refine aG.bnd (zbX size m (zEz.mono Zj.le)) ?_;intro zDQ zdC w w' hw;refine aG.bnd (Qi hz elem) ?_;intro zEq zct z z' pU;refine aG.bnd (zb6 elem (((ho.mono (zdC.trans zct).le).append (hw.mono zct.le)).append (zgy pU.cells _))) ?_;intro zCs zDj r r' hr;exact aG.ret (.slice (.some hr))
     |_=>exact .inl bQ
    |_=>exact .inl bQ
theorem zDb (ts:Array aM)(t:aM)(h:bM S K R xs b8):aG P S K (VA S K) (Dq ts t xs) R (Dq ts t b8):=by
 unfold Dq
 cases e0:ts[0]? with
 |none=>exact .inl bQ
 |some st=>
  have ho:=h.opt 0;have y7:=h.opt 1;generalize xs[0]? =o at ho;generalize b8[0]? =o' at ho;generalize xs[1]? =p at y7;generalize b8[1]? =p' at y7
  cases ho with
  |none=>exact .inl bQ
  |some hs=>
   cases y7 with
   |none=>exact .inl bQ
   |some hx=>
    simp only;refine aG.bnd (mR st) ?_;rintro R1 h1 d _ ⟨rfl,hd⟩
    cases d with
    |slice elem=>
     cases hs with
     |slice hb=>
      refine aG.bnd (zrh (hx.mono h1.le)) ?_;rintro R2 h2 m _ rfl;refine aG.bnd (Bb elem) ?_;rintro R3 h3 size _ rfl;refine aG.bnd (zbX size _ (((hx.mono h1.le).mono h2.le).mono h3.le)) ?_;intro R4 h4 w w' hw;have Jt:=(((hb.mono h1.le).mono h2.le).mono h3.le).mono h4.le
      cases Jt with
      |none=>exact aG.ret (.int _ _)
      |some ha=>
       refine aG.bnd (Zd _ _ 0 ha hw.toList) ?_;rintro R6 h6 _ _ rfl;exact aG.ret (.int _ _)
     |_=>exact .inl bQ
    |_=>exact .inl bQ
theorem aG.ite {α β:Type}{A:Pr->α->β->Prop}{c:Prop}[Decidable c]{s t:cY α}{s' t':cY β}(h1:c->aG P S K A s R s')(h2:¬c->aG P S K A t R t'):aG P S K A (if c then s else t) R (if c then s' else t'):=by grind
variable {xt:aM}{k:C7}
theorem zBt {A:Pr->γ->δ->Prop}{F:Bool->cY γ}{F':Bool->cY δ}(hi:P.underlying xt=some (.int k))(hF:∀R3,yQ P K R R3->aG P S K A (F true) R3 (F' true)):
 aG P S K A (match(generalizing:=false) (some xt:Option aM) with|some xt=>do let l<-underlying xt;let zeros<-pure (match l with| .int k=>true|x=>false);F zeros|none=>do let zeros<-pure false;F zeros) R
  (match(generalizing:=false) (some xt:Option aM) with|some xt=>do let l<-underlying xt;let zeros<-pure (match l with| .int k=>true|x=>false);F' zeros|none=>do let zeros<-pure false;F' zeros):=by
 refine aG.bnd (mR xt) ?_;simp_all
theorem zIn (hz:J6 P S)(t:aM)(e1:ts[1]? =some xt)(hi:P.underlying xt=some (.int k))(h:bM S K R xs b8):
 aG P S K (VA S K) (xV ts t xs) R (xV ts t b8):=by
 unfold xV
 cases e0:ts[0]? with
 |none=>exact .inl bQ
 |some st=>
  have ho:=h.opt 0;have y7:=h.opt 1;generalize xs[0]? =o at ho;generalize b8[0]? =o' at ho;generalize xs[1]? =p at y7;generalize b8[1]? =p' at y7
  cases ho with
  |none=>exact .inl bQ
  |some hs=>
   cases y7 with
   |none=>exact .inl bQ
   |some hx=>
    rename_i s s' x x';simp only;refine aG.bnd (mR st) ?_;rintro R1 h1 d _ ⟨rfl,hd⟩
    cases d with
    |slice elem=>
     cases hs with
     |slice hb=>
      rename_i b b' n c;refine aG.bnd (Bb elem) ?_;rintro R2 h2 size _ rfl;have rL:=(hb.mono h1.le).mono h2.le;have Ah:=(hx.mono h1.le).mono h2.le;rw[e1];refine zBt hi ?_;intro R3 h3;rw[if_pos rfl,if_pos rfl];refine aG.bnd (Zl (Ah.mono h3.le)) ?_;rintro R4 h4 l0 _ rfl;refine aG.ite (λ_=>.inl (fA.bnd vX _)) (λ_=>?_);refine aG.bnd (Fb elem) ?_;rintro zJP zzv zKi _ ⟨rfl,eR⟩;refine aG.ite (λ_=>.inl (fA.then (zmy _) λ_=>fA.bnd vX _)) (λ_=>?_);refine aG.bnd (A:=l7) (aG.ret rfl) ?_;rintro zLj zCZ m _ rfl;have Jt:=(((rL.mono h3.le).mono h4.le).mono zzv.le).mono zCZ.le;have new:∀{R5:Pr},aG P S K (λR a b=>bM S K R a b) (if(!true)=true then Tc size m x else if m*size=0 then pure #[] else do pure (qJ (<-zeroValue elem).cells m)) R5 (if(!true)=true then Tc size m x' else if m*size=0 then pure #[] else do pure (qJ (<-zeroValue elem).cells m)):=by
       intro R5;refine aG.ite (λh=>by cases h) (λ_=>?_);refine aG.ite (λ_=>aG.ret bM.empty) (λ_=>?_);exact aG.bnd (Qi hz elem) λR6 h6 z z' pU=>aG.ret (zgy pU.cells _)
      refine aG.ite (λ_=>?_) (λ_=>?_)
      .refine aG.bnd new ?_
       intro R5 h5 w w' hw;have za4:=Jt.mono h5.le
       cases za4 with
       |none=>exact aG.ret (.slice .none)
       |some ha=>
        refine aG.bnd (Zd _ _ 0 (ha.add _) hw.toList) ?_;rintro R6 h6 _ _ rfl;exact aG.ret (.slice (.some (ha.mono h6.le)))
      .refine aG.bnd (Fb elem) ?_
       rintro zKm zFc zJp _ ⟨rfl,Af⟩;refine aG.ite (λ_=>.inl (fA.bnd vX _)) (λ_=>?_);refine aG.bnd (Fb elem) ?_;rintro R6 h6 zFg _ ⟨rfl,zu1⟩;have uE:=(Jt.mono zFc.le).mono h6.le;refine aG.ite (λ_=>.inl (fA.bnd (by rw[if_pos rfl];exact vX) _)) (λ_=>?_);refine aG.bnd (zfT _) ?_;rintro R7 h7 nc _ rfl;refine aG.bnd (Fb elem) ?_;rintro R8 h8 zBd _ ⟨rfl,zyM⟩;refine aG.bnd (zk1 _) ?_;rintro R9 h9 _ _ rfl;have x9:=((uE.mono h7.le).mono h8.le).mono h9.le;refine aG.bnd (zbX size n (.slice x9)) ?_;intro zEG Zj o o' ho;refine aG.bnd new ?_;intro zDQ zdC w w' hw;refine aG.bnd (Qi hz elem) ?_;intro zEq zct z z' pU;refine aG.bnd (zb6 elem (((ho.mono (zdC.trans zct).le).append (hw.mono zct.le)).append (zgy pU.cells _))) ?_;intro zCs zDj r r' hr;exact aG.ret (.slice (.some hr))
     |_=>exact .inl bQ
    |_=>exact .inl bQ
theorem zzQ (hz:J6 P S)(ts:Array aM)(t:aM)(h:bM S K R xs b8):aG P S K (VA S K) (Rz ts t xs) R (Rz ts t b8):=by
 unfold Rz
 cases e0:ts[0]? with
 |none=>exact .inl bQ
 |some st=>
  have ho:=h.opt 0;generalize xs[0]? =o at ho;generalize b8[0]? =o' at ho;have fin:∀{R2:Pr},aG P S K (VA S K) (pure (.tuple #[])) R2 (pure (.tuple #[])):=aG.ret (VR.tuple' bM.empty)
  cases ho with
  |none=>exact .inl bQ
  |some hs=>
   simp only;refine aG.bnd (mR st) ?_;rintro R1 h1 d _ ⟨rfl,hd⟩
   cases hs with
   |map hm=>
    cases hm with
    |none=>cases d<;>exact fin
    |some hm=>
     cases d
     all_goals
      refine aG.bnd (Ux (h1.le _ _ hm)) ?_;intro R2 h2 o o' ho
      cases ho with
      |map he=>exact aG.bnd (zbH (h2.le _ _ (h1.le _ _ hm)) (.map ⟨rfl,λi e e' h=>by simp at h⟩)) (λ_ _ _ _ _=>fin)
      |_=>exact .inl (by first|exact bQ|exact bQ.bnd _)
   |slice hb=>
    rename_i b b' n c
    cases hb with
    |none=>cases d<;>exact fin
    |some ha=>
     cases n with
     |zero=>cases d<;>exact fin
     |succ n=>
      cases d with
      |slice elem=>
       refine aG.bnd (Qi hz elem) ?_;intro R2 h2 z z' pU;refine aG.bnd (Zd _ _ 0 ((ha.mono h1.le).mono h2.le) (zgy pU.cells _).toList) ?_;simp_all
      |_=>exact .inl (bQ.bnd _)
   |_=>cases d<;>exact .inl (bQ.bnd _)
end
section
variable {P:dM}{S:aQ->Prop}{K:Pr}{α β γ δ:Type}{R:Pr}
theorem zC2 (t:aM){v v':aF}(h:VR S K R v v'):aG P S K (VA S K) (zkw t v) R (zkw t v'):=by
 unfold zkw;refine aG.bnd (mR t) ?_;rintro R1 h1 d _ ⟨rfl,hd⟩
 cases d with
 |interface _=>exact .inl bQ
 |_=>exact aG.ret (.iface (h.mono h1.le))
theorem zqE {z z':Array aF}(h:bM S K R z z')(n:Nat):bM S K R ((Nw n).map (z[·%z.size]!)) ((Nw n).map (z'[·%z'.size]!)):=by
 refine⟨aN,λi v v' h1 h2=>?_⟩;rw[Cy] at h1 h2;rw[<-h.1] at h2
 cases q:(Nw n)[i]? with
 |none=>rw[q] at h1;cases h1
 |some j=>
  rw[q] at h1 h2;cases h1;cases h2
  cases q1:z[j%z.size]? with
  |none=>
   have q2:=h.none q1;show VR S K R (z[j%z.size]!) (z'[j%z.size]!);rw[getElem!_def,getElem!_def,q1,q2];exact .bool false
  |some u=>
   obtain⟨u',q2,hu⟩:=h.get q1
   grind
theorem zpA (hz:J6 P S)(n:Nat)(e:aM){F F':Array aF->cY aF}(hF:∀R1,yQ P K R R1->∀z z',bM S K R1 z z'->aG P S K (VA S K) (F z) R1 (F' z')):
 aG P S K (VA S K) (if n=0 then do let z<-pure #[];F z else do let l<-zeroValue e;let z<-pure l.cells;F z) R (if n=0 then do let z<-pure #[];F' z else do let l<-zeroValue e;let z<-pure l.cells;F' z):=by
 split
 .exact aG.bnd (aG.ret (A:=λR a b=>bM S K R a b) bM.empty) hF
 .refine aG.bnd (Qi hz e) ?_
  intro R1 h1 z z' pU;exact aG.bnd (aG.ret (A:=λR a b=>bM S K R a b) pU.cells) (λR2 h2 a b qZ=>hF R2 (h1.trans h2) a b qZ)
theorem zAk (hz:J6 P S)(t:aM){l l' c c':aF}(hl:VR S K R l l')(hc:VR S K R c c'):aG P S K (VA S K) (zkr t l c) R (zkr t l' c'):=by
 unfold zkr;refine aG.bnd (mR t) ?_;rintro R1 h1 d _ ⟨rfl,hd⟩
 cases d with
 |slice elem=>
  refine aG.bnd (Zl (hl.mono h1.le)) ?_;rintro R2 h2 ln _ rfl;refine aG.bnd (Zl ((hc.mono h1.le).mono h2.le)) ?_;rintro R3 h3 cp _ rfl;refine aG.bnd (Fb elem) ?_;rintro R4 h4 inf _ ⟨rfl,hi⟩;simp only;split
  .left
   split
   .exact vX.bnd _
   .split
    .exact vX.bnd _
    .exact fA.then (zmy _) λ_=>vX.bnd _
  .refine aG.bnd (zk1 _) ?_
   rintro R5 h5 _ _ rfl;refine aG.bnd (Bb elem) ?_;rintro R6 h6 sz _ rfl;refine zpA hz _ elem ?_;intro R7 h7 z z' pU;refine aG.bnd (zb6 elem (zqE pU _)) ?_;intro R8 h8 r r' hr;exact aG.ret (.slice (.some hr))
 |_=>exact .inl bQ
inductive PsR (S:aQ->Prop)(K R:Pr):List (Nat×aF)->List (Nat×aF)->Prop
 |nil:PsR S K R [] []
 |cons {i:Nat} {v v':aF} {l l':List (Nat×aF)}:VR S K R v v'->PsR S K R l l'->PsR S K R ((i,v)::l) ((i,v')::l')
theorem PsR.mono {R':Pr}(hR:R.le R'){l l':List (Nat×aF)}(h:PsR S K R l l'):PsR S K R' l l':=by
 induction h with
 |nil=>exact .nil
 |cons a _ ih=>exact .cons (a.mono hR) ih
inductive OarR (S:aQ->Prop)(K R:Pr):Option (Array aF)->Option (Array aF)->Prop
 |none:OarR S K R none none
 |some {c c':Array aF}:bM S K R c c'->OarR S K R (some c) (some c')
theorem zpH (off:Nat):∀(l l':List aF) (j:Nat) {c c':Array aF},yJ S K R l l'->bM S K R c c'->
 bM S K R ((l.zipIdx j).foldl (λcs (x:aF×Nat)=>cs.setIfInBounds (off+x.2) x.1) c) ((l'.zipIdx j).foldl (λcs (x:aF×Nat)=>cs.setIfInBounds (off+x.2) x.1) c')
 |[],[],j,c,c',_,h=>h
 |[],_::_,_,_,_,h,_=>by have:=h.1;simp at this
 |_::_,[],_,_,_,h,_=>by have:=h.1;simp at this
 |x::l,x'::l',j,c,c',h,hc=>by
  obtain⟨a,b⟩:=h.cons;simp only[List.zipIdx_cons,List.foldl_cons];exact zpH off l l' (j+1) b (hc.set _ a)
theorem zk5 (place:Nat->Option (Nat×Nat)):∀(l l':List (Nat×aF)) {c c':Array aF},PsR S K R l l'->bM S K R c c'->OarR S K R (Ns place c l) (Ns place c' l')
 |[],_,c,c',.nil,h=>.some h
 |(i,v)::l,(_,v')::l',c,c',.cons a b,h=>by
  unfold Ns
  cases place i with
  |none=>exact .none
  |some os=>
   obtain⟨off,size⟩:=os;have e1:=a.cells.1;have e2:=h.1;simp only;rw[e1,e2];split
   .exact .none
   .refine zk5 place l l' b ?_
    have:=zpH off v.cells.toList v'.cells.toList 0 a.cells.toList h;rw[<-zoh,<-zoh];simpa using this
variable {ps Tl:Array (Nat×aF)}
theorem zD4 (hz:J6 P S)(t:aM)(n:Nat)(h:PsR S K R ps.toList Tl.toList):aG P S K (VA S K) (zlU t n ps) R (zlU t n Tl):=by
 unfold zlU;refine aG.bnd (mR t) ?_;rintro R1 h1 d _ ⟨rfl,hd⟩
 cases d with
 |slice elem=>
  refine aG.bnd (Bb elem) ?_;rintro R2 h2 size _ rfl;simp only;split
  .exact .inl (fA.bnd lV _)
  .refine zpA hz _ elem ?_
   intro R3 h3 z z' pU;have hf:=zk5 (λi=>some (i*size,size)) _ _ (((h.mono h1.le).mono h2.le).mono h3.le) (zqE pU (n*size));revert hf;generalize Ns _ _ ps.toList=o;generalize Ns _ _ Tl.toList=o';intro hf
   cases hf with
   |none=>exact .inl bQ
   |some hc=>
    refine aG.bnd (zb6 elem hc) ?_;intro R8 h8 r r' hr;exact aG.ret (.slice (.some hr))
 |_=>exact .inl bQ
theorem zpV {ι κ:Type}{f:ι->cY κ}(hf:∀x (R:Pr),aG P S K l7 (f x) R (f x)):∀(l:List ι) {R:Pr},aG P S K l7 (l.mapM f) R (l.mapM f)
 |[],R=>by rw[List.mapM_nil];exact aG.ret rfl
 |x::l,R=>by
  rw[List.mapM_cons];refine aG.bnd (hf x R) ?_;rintro R1 h1 a _ rfl;refine aG.bnd (zpV hf l) ?_;rintro R2 h2 b _ rfl;exact aG.ret rfl
theorem zF7 (hz:J6 P S)(t:aM)(h:PsR S K R ps.toList Tl.toList):aG P S K (VA S K) (zkQ t ps) R (zkQ t Tl):=by
 have fin:∀{R3:Pr} (place:Nat->Option (Nat×Nat)) (Rp:String) {z z':Array aF},R.le R3->bM S K R3 z z'->aG P S K (VA S K) (match Ns place z ps.toList with|some cells=>pure (.agg cells)|_=>stuck Rp) R3 (match Ns place z' Tl.toList with|some cells=>pure (.agg cells)|_=>stuck Rp):=by
  intro R3 place Rp z z' hle pU;have hf:=zk5 place _ _ (h.mono hle) pU;revert hf;generalize Ns _ _ ps.toList=o;generalize Ns _ _ Tl.toList=o';intro hf
  cases hf with
  |none=>exact .inl bQ
  |some hc=>exact aG.ret (VR.agg' hc)
 unfold zkQ;refine aG.bnd (Qi hz t) ?_;intro R1 h1 z z' pU;refine aG.bnd (mR t) ?_;rintro R2 h2 d _ ⟨rfl,hd⟩
 cases d with
 |struct fields=>
  refine aG.bnd (A:=l7) ?_ ?_
  .rw[Array.mapM_eq_mapM_toList,map_eq_pure_bind]
   refine aG.bnd (zpV (λf R=>aG.bnd (Bb _) (λR1 h1 a b e=>by cases e;exact aG.ret rfl)) fields.toList) ?_;rintro R3 h3 l _ rfl;exact aG.ret rfl
  .rintro R3 h3 places _ rfl
   exact fin _ _ (h1.trans (h2.trans h3)).le ((pU.cells.mono h2.le).mono h3.le)
 |array n elem=>
  refine aG.bnd (Bb elem) ?_;rintro R3 h3 size _ rfl;exact fin _ _ (h1.trans (h2.trans h3)).le ((pU.cells.mono h2.le).mono h3.le)
 |_=>exact .inl bQ
end
section
variable {P:dM}{S:aQ->Prop}{K:Pr}{R:Pr}
theorem zq4 (op:Nj)(k:C7)(a b:Int):aG P S K (VA S K) (zwQ op k a b) R (zwQ op k a b):=by
 cases op<;>first|exact aG.ret (.int _ _)|exact .inl bQ
theorem zDK (op:Nj)(k:C7)(a b:Int):aG P S K (VA S K) (zja op k a b) R (zja op k a b):=by
 unfold zja;split
 .exact .inl vX
 .cases op<;>first|exact aG.ret (.int _ _)|exact .inl bQ
theorem zs1 (op:Nj)(k:C7)(a b:Int):aG P S K (VA S K) (zsz op k a b) R (zsz op k a b):=by
 cases op<;>first|exact aG.ret (.int _ _)|exact .inl bQ
theorem zwo (op:Nj)(k:C7)(a:Int)(k':C7)(b:Int):aG P S K (VA S K) (zmU op k a k' b) R (zmU op k a k' b):=by
 unfold zmU;split
 .exact .inl vX
 .cases op<;>first|exact aG.ret (.int _ _)|exact .inl bQ
theorem zmF (op:Nj)(a b:Int):aG P S K (VA S K) (Op.intCmp op a b) R (Op.intCmp op a b):=by
 cases op<;>first|exact aG.ret (.bool _)|exact .inl bQ
theorem znQ (op:Nj)(a b:ByteArray):aG P S K (VA S K) (zj5 op a b) R (zj5 op a b):=by
 unfold zj5;cases op<;>first|exact aG.ret (.bool _)|exact .inl bQ|skip
 simp only;split
 .exact .inl lV
 .exact aG.ret (.string _)
variable {x x':aF}
theorem zzm (op:UnOp)(h:VR S K R x x'):aG P S K (VA S K) (Op.unary op x) R (Op.unary op x'):=by
 cases h with
 |int k n=>cases op<;>first|exact zq4 .sub k 0 n|exact zs1 .xor k _ n|exact .inl bQ
 |bool b=>cases op<;>first|exact aG.ret (.bool _)|exact .inl bQ
 |pointer h=>cases h<;>cases op<;>first|exact .inl lV|exact .inl bQ
 |_=>cases op<;>exact .inl bQ
theorem dM.cellOfByte_g (P:dM):∀(d:Nat) (t:aM) (o:Nat),cellOfByte P.g d t o=cellOfByte P.c d t o:=by
 intro d
 induction d with
 |zero=>intro t o;rfl
 |succ d ih=>
  intro t o;unfold cellOfByte;rw[P.underlying_g];simp only[ih,P.cells_g,P.bytes_g];rfl
theorem dM.cellAtBytes_g (P:dM)(d:Nat)(e:aM)(c o:Nat)(b:Int):cellAtBytes P.g d e c o b=cellAtBytes P.c d e c o b:=by
 unfold cellAtBytes;simp only[P.cells_g,P.bytes_g,P.byteOfCell_g,P.cellOfByte_g];rfl
variable {y y':aF}
theorem zoU (ts:Array aM)(t:aM)(hx:VR S K R x x')(hy:VR S K R y y'):aG P S K (λR v v'=>∃a a',v=.pointer a/\v'=.pointer a'/\xX R a a') (N3 ts t #[x,y]) R (N3 ts t #[x',y']):=by
 unfold N3
 cases hx with
 |pointer hp=>
  refine aG.bnd (Zl hy) ?_;rintro R1 h1 n _ rfl;by_cases hn:n=0
  .simp only[if_pos hn]
   cases hp with
   |none=>exact .inl lV
   |some ha=>
    cases ha with
    |mk hr=>
     refine aG.bnd (zsl (h1.le _ _ hr)) ?_;rintro R2 h2 _ _ ⟨rfl,rfl⟩;exact aG.ret ⟨_,_,rfl,rfl,.some (.mk (h2.le _ _ (h1.le _ _ hr)))⟩
  .simp only[if_neg hn]
   by_cases h0:n<0
   .simp only[if_pos h0]
    exact .inl (fA.bnd lV _)
   .simp only[if_neg h0]
    cases hp with
    |none=>exact .inl lV
    |some ha=>
     cases ha with
     |mk hr=>
      refine aG.bnd (zbp (h1.le _ _ hr)) ?_;rintro R2 h2 x _ rfl
      cases x with
      |none=>exact .inl lV
      |some x=>
       obtain⟨e,n⟩:=x;refine aG.bnd Uk ?_;rintro R3 h3 p q ⟨rfl,rfl⟩;simp only[P.cells_g,P.depth_g,P.cellAtBytes_g];split
       .exact aG.ret ⟨_,_,rfl,rfl,.some (.mk (h3.le _ _ (h2.le _ _ (h1.le _ _ hr))))⟩
       .exact .inl lV
 |_=>exact .inl bQ
theorem zdr (ts:Array aM)(t:aM)(hx:VR S K R x x')(hy:VR S K R y y'):aG P S K (VA S K) (N3 ts t #[x,y]) R (N3 ts t #[x',y']):=
 (zoU ts t hx hy).mono λR' _ a b h=>by
  obtain⟨p,p',rfl,rfl,h⟩:=h;exact .pointer h
variable {a':bC}
theorem zGy {a:bC}(h:fR R a a')(l:Bool):aG P S K (VA S K) (asNumber a l) R (asNumber a' l):=by
 unfold asNumber;refine aG.bnd (zeJ (.number h)) ?_;rintro R1 h1 n n' hn;exact aG.ret (.pointer (.some (.mk hn)))
theorem zzl {a:bC}(h:fR R a a'):aG P S K (λR x y=>fR R x.1 y.1/\x.2=y.2) (behindNumber a) R (behindNumber a'):=by
 have h0:=h
 cases h with
 |mk h=>
  unfold behindNumber;refine aG.bnd (zlZ h) ?_;rintro R1 h1 x y (⟨rfl,rfl⟩|⟨p,p',l,rfl,rfl,hp⟩)
  .exact aG.ret ⟨h0.mono h1.le,rfl⟩
  .exact aG.ret ⟨hp,rfl⟩
theorem zmn (t:aM)(hx:VR S K R x x')(hy:VR S K R y y'):aG P S K (VA S K) (movedNumber t x y) R (movedNumber t x' y'):=by
 unfold movedNumber;refine aG.bnd (mR t) ?_;rintro R1 h1 d _ ⟨rfl,_⟩
 have k:aG P S K (VA S K) (do
  let .pointer (some n):=x|N3 #[] t #[x,y]
  let(a,lost)<-behindNumber n
  match<-N3 #[] t #[.pointer (some a),y] with
  | .pointer (some b)=>asNumber b lost
  |v=>pure v) R1 (do
  let .pointer (some n):=x'|N3 #[] t #[x',y']
  let(a,lost)<-behindNumber n
  match<-N3 #[] t #[.pointer (some a),y'] with
  | .pointer (some b)=>asNumber b lost
  |v=>pure v):=by
  have Nc:=hx.mono h1.le;have ziB:=hy.mono h1.le
  cases hx with
  |pointer hp=>
   cases hp with
   |none=>exact zdr _ _ Nc ziB
   |some ha=>
    refine aG.bnd (zzl (ha.mono h1.le)) ?_;rintro R2 h2 ⟨a,l⟩ ⟨a',l'⟩ ⟨h3,h4⟩;simp only at h3 h4;subst h4;refine aG.bnd (zoU _ _ (.pointer (.some h3)) (ziB.mono h2.le)) ?_;rintro R3 h5 v v' ⟨p,p',rfl,rfl,hb⟩
    cases hb with
    |none=>exact aG.ret (.pointer .none)
    |some hb=>exact zGy hb _
  |junk _=>exact .inl bQ
  |_=>exact zdr _ _ Nc ziB
 cases d<;>first|exact k|exact .inl lV|exact .inl (fA.bnd lV _)
theorem zzP (t:aM)(hx:VR S K R x x')(hy:VR S K R y y'):aG P S K (VA S K) (movedPointer t x y) R (movedPointer t x' y'):=by
 unfold movedPointer;have tH:=hx
 cases hx with
 |pointer hp=>
  cases hp with
  |none=>exact zdr _ _ tH hy
  |some ha=>
   have Oz:=ha
   cases ha with
   |mk hr=>
    refine aG.bnd (zlZ hr) ?_;rintro R1 h1 x y (⟨rfl,rfl⟩|⟨p,p',l,rfl,rfl,hp⟩)
    .exact zdr #[] t (tH.mono h1.le) (hy.mono h1.le)
    .exact .inl lV
 |_=>exact zdr _ _ tH hy
end
section
variable {P:dM}{S:aQ->Prop}{K:Pr}{R:Pr}
variable {a a' b b':bC}
theorem ztG (hR:uJ P K R)(ha:fR R a a')(hb:fR R b b'):aG P S K l7 (zko a b) R (zko a' b'):=by
 unfold zko;refine aG.bnd zio ?_;rintro R1 _ p q ⟨rfl,rfl,rfl⟩;have e1:=fR.block_eq hR ha hb;have e2:=fR.low hR ha;have e3:decide (a.block>=P.globals.size)=decide (a'.block>=P.globals.size):=by
  have:=decide_eq_decide.1 e2;exact decide_eq_decide.2 aC
 have hc:(a.block !=b.block||decide (a.block>=P.g.globals.size))=(a'.block !=b'.block||decide (a'.block>=P.c.globals.size)):=by
  rw[P.globals_g];show(!(a.block==b.block)||_)=(!(a'.block==b'.block)||_);rw[e1];congr 1
 by_cases h:(a.block !=b.block||decide (a.block>=P.g.globals.size))=true
 .simp only[if_pos h]
  exact .inl (fA.bnd lV _)
 .have h':¬(a'.block !=b'.block||decide (a'.block>=P.c.globals.size))=true:=by rw[<-hc];exact h
  simp only[if_neg h,if_neg h'];refine aG.bnd (Ry ha) ?_;rintro R4 h4 m _ rfl;refine aG.bnd (Ry (hb.mono h4.le)) ?_;rintro R5 h5 m' _ rfl;exact aG.ret rfl
theorem zEm (hR:uJ P K R)(k:C7)(ha:fR R a a')(hb:fR R b b'):aG P S K (VA S K) (zhY k a b) R (zhY k a' b'):=by
 unfold zhY;refine aG.bnd (ztG hR ha hb) ?_;rintro R1 _ ⟨x,y⟩ _ rfl;exact aG.ret (.int _ _)
theorem zGB (hR:uJ P K R)(op:Nj)(ha:fR R a a')(hb:fR R b b'):aG P S K (VA S K) (zjT op a b) R (zjT op a' b'):=by
 unfold zjT;refine aG.bnd (ztG hR ha hb) ?_;rintro R1 _ ⟨x,y⟩ _ rfl;cases op<;>first|exact aG.ret (.bool _)|exact .inl lV
theorem zyl (k:C7)(ha:fR R a a')(n:Int):aG P S K (VA S K) (zm2 k a n) R (zm2 k a' n):=by
 unfold zm2;have Oz:=ha
 cases ha with
 |mk hr=>
  refine aG.bnd (zbp hr) ?_;rintro R1 h1 x _ rfl
  cases x with
  |none=>exact .inl lV
  |some x=>
   obtain⟨e,c⟩:=x;refine aG.bnd (Fb e) ?_;rintro R2 h2 i _ ⟨rfl,_⟩;simp only;split
   .exact .inl (fA.bnd lV _)
   .refine aG.bnd (Ry (Oz.mono (h1.trans h2).le)) ?_
    rintro R3 h3 m _ rfl;exact aG.ret (.int _ _)
theorem zE7 (op:Nj)(t:aM){x y:aF}(ho:op≠ .eql/\op≠ .neq)(hx:∀k n,x≠ .int k n)(hs:∀s,x≠ .string s)(hp:∀a,x≠ .pointer a)(hf:∀k n,x≠ .float k n)(hc:∀k n m,x≠ .complex k n m):fA P (binOp op t x y):=by
 unfold binOp;split<;>first|exact bQ|exact lV|(exfalso;first|exact hx _ _ rfl|exact hs _ rfl|exact hp _ rfl|exact hf _ _ rfl|exact hc _ _ _ rfl|exact ho.1 rfl|exact ho.2 rfl)
theorem zHS (op:Nj)(t:aM)(ho:op≠ .eql/\op≠ .neq)(hR:uJ P K R){x x' y y':aF}(hx:VR S K R x x')(hy:VR S K R y y'):
 aG P S K (VA S K) (binOp op t x y) R (binOp op t x' y'):=by
 have tH:=hx;have zdf:=hy
 cases hx with
 |int k a=>
  cases hy with
  |int k' b=>
   by_cases hk:k=k'
   .subst hk
    cases op<;>simp only[binOp,ne_eq,not_true_eq_false,if_false]<;>first|exact zq4 _ _ _ _|exact zDK _ _ _ _|exact zs1 _ _ _ _|exact zwo _ _ _ _ _|exact zmF _ _ _
   .cases op<;>simp only[binOp,ne_eq,hk,not_false_eq_true,if_true]<;>first|exact zwo _ _ _ _ _|exact .inl bQ
  |pointer hp=>
   cases op<;>first|exact absurd rfl ho.1|exact absurd rfl ho.2|exact zmn t zdf tH|skip
   all_goals(cases hp<;>first|exact .inl lV|skip)
   rename_i hb;refine aG.bnd (zsu hb) ?_;intro R1 h1 u v ziM;exact zyl _ ziM _
  |_=>cases op<;>first|exact absurd rfl ho.1|exact absurd rfl ho.2|exact .inl bQ
 |string a=>
  cases hy with
  |string b=>cases op<;>simp only[binOp]<;>exact znQ _ _ _
  |pointer hp=>cases op<;>first|exact absurd rfl ho.1|exact absurd rfl ho.2|exact .inl lV
  |_=>cases op<;>first|exact absurd rfl ho.1|exact absurd rfl ho.2|exact .inl bQ
 |pointer hp=>
  cases hy with
  |int k n=>
   have e:∀m,VR S K R (.int k m) (.int k m):=λm=>.int k m;cases op<;>first|exact absurd rfl ho.1|exact absurd rfl ho.2|exact zmn t tH (e _)|skip
   all_goals first|(cases hp<;>first|exact .inl lV|(rename_i hb;refine aG.bnd (zsu hb) ?_;intro R1 h1 u v ziM;exact zyl _ ziM _))|skip
   all_goals
    simp only[binOp];refine aG.bnd (mR t) ?_;rintro R1 h1 d _ ⟨rfl,_⟩;cases d<;>first|exact zzP t (tH.mono h1.le) (zdf.mono h1.le)|exact zmn t (tH.mono h1.le) (zdf.mono h1.le)
  |pointer hq=>
   cases hp with
   |none=>cases hq<;>cases op<;>first|exact absurd rfl ho.1|exact absurd rfl ho.2|exact .inl lV
   |some ha=>
    cases hq with
    |none=>cases op<;>first|exact absurd rfl ho.1|exact absurd rfl ho.2|exact .inl lV
    |some hb=>
     have two:∀{F F':bC->bC->cY aF},(∀u u' v v',fR R u u'->fR R v v'->aG P S K (VA S K) (F u v) R (F' u' v'))->∀{a1 znb a2 zkf},fR R a1 znb->fR R a2 zkf->
      aG P S K (VA S K) (do F (<-behindNumber a1).1 (<-behindNumber a2).1) R (do F' (<-behindNumber znb).1 (<-behindNumber zkf).1):=by
      intro F F' hF a1 znb a2 zkf h1 h2;refine aG.bnd (zfM h1) ?_;rintro R1 _ u u' ⟨rfl,hu⟩;refine aG.bnd (zfM h2) ?_;rintro R2 _ v v' ⟨rfl,hv⟩;exact hF _ _ _ _ hu hv
     cases op<;>first|exact absurd rfl ho.1|exact absurd rfl ho.2|exact .inl lV|exact two (λu u' v v' h1 h2=>zEm hR _ h1 h2) ha hb|exact two (λu u' v v' h1 h2=>zGB hR _ h1 h2) ha hb
  |_=>cases op<;>first|exact absurd rfl ho.1|exact absurd rfl ho.2|exact .inl lV|(cases hp<;>exact .inl lV)
 |_=>exact .inl (zE7 op t ho aN aN aN aN aN)
end
def Ends {α:Type}(r:Result α):Prop:=(∃x w',r=.ok x w')\/∃h w',r=.halt h w'/\V7 h
def Ends.halt {h:Halt}(ht:V7 h):Ends (.halt h w:Result α):=.inr ⟨h,w,rfl,ht⟩
theorem aG.tame {A:Pr->α->β->Prop}{G:Gp}(hG:G=P.gp)(s:cY α):
 ∀{R:Pr} {w W:aE} {s':cY β},aG P S K A s R s'->cV S K R G St w W->Tp w W->Ends (s.run P.g w):=by
 induction s with
 |pure a=>
  rintro R w W s' (hn|⟨b,rfl,h⟩) hw ht
  .exact .inr (hn _ hw.np)
  exact .inl ⟨a,w,rfl⟩
 |load m a k ih=>
  rintro R w W s' (hn|⟨rfl,a',k',rfl,ha,hk⟩) hw ht
  .exact .inr (hn _ hw.np)
  obtain⟨qZ⟩:=ha;rename_i b b' o sp;obtain⟨ob,Cq,h1,h2,h3⟩:=hw.cont b b' qZ
  cases h3 with
  |cells hc hz=>
   rename_i c c' T fz Iw
   cases sp with
   |some sp=>simp only[bL,lW,h1,y9,rR];exact .halt trivial
   |none=>
    cases hv:c[o]? with
    |none=>simp only[bL,lW,h1,y9,rR,hv];exact .halt trivial
    |some v=>
     obtain⟨v',L9,qS⟩:=hc.get hv;have e1:w.cell? ⟨b,o,none⟩=some v:=by simp[lW,h1,hv]
     rw[bL,e1];exact ih v (hk v v' qS) hw ht
  |_=>simp only[bL,lW,h1,y9,rR];exact .halt trivial
 |store m a v k ih=>
  rintro R w W s' (hn|⟨rfl,a',v',k',rfl,ha,hv,hk⟩) hw ht
  .exact .inr (hn _ hw.np)
  obtain⟨qZ⟩:=ha;rename_i b b' o sp;by_cases Uo:∃cs,v=.agg cs
  .obtain⟨cs,rfl⟩:=Uo;rw[bL];exact .halt trivial
  by_cases Gi:∃cs,v=.tuple cs
  .obtain⟨cs,rfl⟩:=Gi;rw[bL];exact .halt trivial
  rw[bL]
  rotate_left
  .simp_all
  .simp_all
  obtain⟨ob,Cq,h1,h2,h3⟩:=hw.cont b b' qZ
  cases h3 with
  |cells hc hz=>
   rename_i c c' T fz Iw
   cases sp with
   |some sp=>simp only[lW,h1,Dp,rR];exact .halt trivial
   |none=>
    cases gI:c[o]? with
    |none=>simp only[lW,h1,Dp,rR,gI];exact .halt trivial
    |some v0=>
     have e1:w.cell? ⟨b,o,none⟩=some v0:=by simp[lW,h1,gI]
     rw[e1];simp only
     cases nZ:w.frozen? ⟨b,o,none⟩ with
     |true=>exact .halt trivial
     |false=>
      simp only[iX,if_false];have Xb:¬Kk fz o:=by
       intro⟨z1,z2⟩;simp[Jg,h1,z1,z2] at nZ
      have Ad:¬St b:=by
       intro hs;obtain⟨_,c2,T2,hi,g1,g2⟩:=hw.st b hs;rw[h1] at g1;injection g1 with g1;injection g1 with g1 _ g3;subst g1 g3;exact Xb ⟨lP _,jO (eB.1 gI).1 g2⟩
      rw[Yc h1];have st:=nJ.upd hw qZ Ad (oS.cells (T:=T) (hc.set o hv) hz);exact ih hk st.rel (ht.step st)
  |_=>simp only[lW,h1,Dp,rR];exact .halt trivial
 |new o k ih=>
  rintro R w W s' (hn|⟨o',k',rfl,ho,hk⟩) hw ht
  .exact .inr (hn _ hw.np)
  rw[bL];have st:=nJ.push hw ho;exact ih _ (hk _ _ ⟨λb hb=>absurd (hw.lt _ _ hb).1 (Ij _),λa ha=>absurd (hw.lt _ _ ha).2 (Ij _),by subst hG;exact hw.gle⟩) st.rel (ht.step st)
 |shape r k ih=>
  rintro R w W s' (hn|⟨r',k',rfl,tV,hk⟩) hw ht
  .exact .inr (hn _ hw.np)
  rw[bL];exact ih _ (hk _) hw ht
 |freeze a n k ih=>
  rintro R w W s' (hn|h) hw ht
  .exact .inr (hn _ hw.np)
  .exact h.elim
 |frozen a k ih=>
  rintro R w W s' (hn|⟨r',k',rfl,hk⟩) hw ht
  .exact .inr (hn _ hw.np)
  rw[bL];exact ih _ (hk _ true) hw ht
 |getObj r k ih=>
  rintro R w W s' (hn|⟨r',k',rfl,tV,hk⟩) hw ht
  .exact .inr (hn _ hw.np)
  rw[bL];rcases hw.orR tV with x|x
  .obtain⟨ob,Cq,h1,h2,h3⟩:=hw.cont r r' x
   rw[h1];have go:Ends ((k ob).run P.g w):=ih ob (hk _ _ h3) hw ht;cases h3<;>first|exact go|exact .halt trivial
  .rw[x];exact .halt trivial
 |setObj r o k ih=>
  rintro R w W s' (hn|⟨r',o',k',rfl,tV,ho,hk⟩) hw ht
  .exact .inr (hn _ hw.np)
  rw[bL];rcases hw.orR tV with x|x
  .obtain⟨ob,Cq,h1,h2,h3⟩:=hw.cont r r' x
   rw[h1];have go:(∀c T fz,ob≠ .cells c T fz)->Ends (k.run P.g {w with heap:=w.heap.setIfInBounds r o}):=λn1=>by
    have Ad:¬St r:=by
     intro hs;obtain⟨_,c2,T2,hi,g1,g2⟩:=hw.st r hs;rw[h1] at g1;injection g1 with g1;exact n1 _ _ _ g1
    have st:=nJ.upd hw x Ad ho;exact ih hk st.rel (ht.step st)
   cases h3<;>first|exact go aN|exact .halt trivial
  .rw[x];exact .halt trivial
 |choose q k ih=>
  rintro R w W s' (hn|⟨k',rfl,hk⟩) hw ht
  .exact .inr (hn _ hw.np)
  rw[bL]
  cases hq:q.forced with
  |true=>
   simp only[if_true];exact ih 0 (hk 0) hw ht
  |false=>
   simp only[iX,if_false];have st:=nJ.draw hw;exact ih _ (hk _) st.rel (ht.step st)
 |sys c k ih=>
  rintro R w W s' (hn|h) hw ht
  .exact .inr (hn _ hw.np)
  .exact h.elim
 |program k ih=>
  rintro R w W s' (hn|⟨k',rfl,hk⟩) hw ht
  .exact .inr (hn _ hw.np)
  rw[bL];exact ih _ hk hw ht
 |mark m k ih=>
  rintro R w W s' (hn|⟨rfl,k',rfl,hk⟩) hw ht
  .exact .inr (hn _ hw.np)
  rw[bL];exact ih hk hw ht
 |halt h=>
  rintro R w W s' (hn|hx) hw ht
  .exact .inr (hn _ hw.np)
  .exact hx.elim
end Go.Tt
