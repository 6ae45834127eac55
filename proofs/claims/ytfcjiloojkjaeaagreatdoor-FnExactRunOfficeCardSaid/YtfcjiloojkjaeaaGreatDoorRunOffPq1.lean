/-
  Part 1 of what stands behind the last text.
-/
import Derived.Test.YtfcjiloojkjaeaaGreatDoorRows
import Derived.Lib.SmallJoins
import Derived.WalkSpells
import Derived.WalkLawsBesides
import Derived.BigQuiet
import Derived.Deep.OwnRows
import Derived.Deep.AppendLies
import Derived.Deep.AppendSrc
import Derived.Deep.RegionLaw
import Derived.Lib.ItoaLen
import Derived.Deep.Matrix
import Derived.Deep.RegionHeld3
import Derived.Deep.CutRange
import Derived.Conc.Own
open Array renaming foldl_toList→zwP,getD_eq_getD_getElem?→tZ,getElem?_eq_getElem→mK,getElem?_eq_none→Gr,getElem?_eq_none_iff→zxv,getElem?_eq_some_iff→dO,getElem?_map→x7,getElem?_modify→zi3,getElem?_push→Wa,getElem?_push_lt→U3,getElem?_setIfInBounds_ne→jQ,getElem?_setIfInBounds_self_of_lt→Kd,range→Lx
open Bool renaming eq_iff_iff→Ns,false_eq_true→jF
open Go renaming Addr→bL,BinOp→N7,BoundsCode→zkX,Calls→fH,FuncId→aO,IntKind→Ez,MapEntry→o7,MemPlace→ztj,Obj→tM,Oper→aZ,Operand→cN,Program→bS,Sem→cU,TypeDesc→Zj,TypeId→aM,TypeInfo→wW,Value→aF,World→aE,heap_alloc_new→lQ,info_parts→zI,run_append_own_at→ztT,yielded→dR
open Go.Addr renaming add→zg0
open Go.Addr.mk renaming injEq→zl3
open Go.Builtin renaming append_→xF,cap_→zkO,clear_→Ru,copy_→C4,delete_→Lh,firstCells→Uz,holdsCells→zl5,lenOf→zyv,len_→zhI,mayShare→zv0,unsafeAdd_→Nw,zeroCells→pZ
open Go.ByteArray renaming toList_eq→zx9
open Go.DataW renaming Trod→zsx,trod_int→Xf
open Go.Ending renaming returned→znC
open Go.Instr renaming alloc→zmI,box→zkm,build→zid,buildSlice→zj2,checkKey→Ft,extract→zmF,fieldAt→zk8,fill→Mz,findAsking→L0,findKey→Kb,findNow→Fx,index→ziv,indexAt→zlv,keyThatStays→Pp,loadAt→zlz,lookup→zM,makeChan→zns,makeInterface→zjg,makeMap→ziG,makeSlice→zf5,mapUpdate→G2,sameBits→Zz,sameNow→wG,slice→Yk,sliceAt→X4,sliceBound→Mf,sliceBounds→Vu,storeAt→zjD,sureAddr→zsU
open Go.Lib renaming decDigits→Iw,decDigits_one→zrS,itoa→K7
open Go.Obj renaming cells→zwc
open Go.Op renaming addrCmp→znJ,addrMod→zkL,addrSub→zmD,equal→zW,equalIn→C0,intArith→ztH,intBits→zpI,intDiv→zhD,shift→zmd,stringOp→zk2,twoPlaces→zhu
open Go.Oper renaming wp→By
open Go.Proofs.Tryz renaming func10→zpz,func15→zu0,func16→zxE,func17→zn4,func18→zs5,func39→zwZ,func44→zxy,ntmps10→zvy,ntmps15→zv3,ntmps16→zr4,ntmps17→zpP,ntmps18→zt3,ntmps39→zxI,ntmps44→zx8,prog→aK,underlying57→Ln
open Go.Region renaming wanted→dD
open Go.Result renaming andThen_ok→D7
open Go.RowKit renaming Below→bR
open Go.RowKit.Below renaming heap_alloc→uB,heap_setCell→eH,refl→eF
open Go.Sem renaming events→wE,run→bD,runT→zQ,run_bind→E6,run_bind'→rK,run_pure→Ht
open Go.Value renaming cells→Uf,okWide→zoc,oneCell'→zul,ownBlock→Lr,tuple→W9
open Go.World renaming block_lt_of_cell?→zlW,cell?→lI,cell?_of_block→Br,farLoad→yX,farStore→De,frozen?→Sa,news_of_block→E0,noCell→rE,setCell→zhA,shape?→zbf,size_setCell→sN
open List renaming cons_append→S4,dropWhile_cons→zpK,ext_getElem?→Uw,filter_append→P4,filter_cons→zn8,find?_cons→zuL,findIdx?_cons→zwt,flatMap_cons→zcT,getElem?_eq_getElem→lO,getElem?_eq_none→Cu,getElem?_eq_some_iff→kE,getElem?_modify→zD,length→Wm,length_append→gM,length_cons→qA,length_drop→xO,length_filter_le→zc2,length_modify→Hk,length_nil→rY,length_take→rV,map_cons→fK,map_nil→tL,map_toArray→uS,mem_cons→jL,mem_iff_getElem→Kj,mem_map→Ir,mem_of_getElem?→dX,nil_append→zfy,range→gN,takeWhile_cons→zde,take_add_one→Nb,take_of_length_le→zP
open Nat renaming add_assoc→Wi,le_refl→aX,le_trans→eG,lt_irrefl→Ci,lt_of_lt_of_le→lC,lt_or_ge→mX,lt_succ_self→wR,mul_le_mul_right→Am,succ_mul→zjq,zero_add→qZ,zero_le→jY,zero_mul→zcb
open Option.some renaming inj→cE,injEq→fT
open Pure renaming pure→kU
open UInt8 renaming ofNat→U4
set_option linter.all false
structure qC (P:Prop):Prop where
 o:P
def aD {P:Prop}(h:P):qC P:=⟨h⟩
set_option maxHeartbeats 16000000
set_option maxRecDepth 100000
namespace Go
def aC{P:Prop}(h:P:=by omega):P:=h
def aH{P:Prop}(h:P:=by decide):P:=h
def aP{P:Prop}(h:P:=by kernel_rfl):P:=h
def aQ{P:Prop}(h:P:=by simp):P:=h
def Q7{P:Prop}(h:P:=by intro u hu;simp[bJ.cells] at hu;rcases hu with rfl|rfl<;>rfl):P:=h
def r9{P:Prop}(h:P:=by simp;omega):P:=h
def Ng{P:Prop}(h:P:=by intro u hu;simp at hu;subst hu;rfl):P:=h
def zoo{P:Prop}(h:P:=by(repeat' (first|with_reducible assumption|with_reducible exact zcg (by assumption)|with_reducible exact eF _ _|with_reducible apply dS|with_reducible apply zby))):P:=h
def n6{P:Prop}(h:P:=by go_num):P:=h
def Gx{P:Prop}(h:P:=by simp[Lr];omega):P:=h
def zsq{P:Prop}(h:P:=by intro k hk aT;have cP:k=0\/k=1\/k=2\/k=3\/k=4\/k=6:=(by omega);rcases cP with rfl|rfl|rfl|rfl|rfl|rfl<;>rfl):P:=h
def zt7{P:Prop}(h:P:=by intro k hk aT;have cP:k=0\/k=1\/k=2\/k=3\/k=4\/k=5:=(by omega);rcases cP with rfl|rfl|rfl|rfl|rfl|rfl<;>rfl):P:=h
def Lz{P:Prop}(h:P:=by simp only;omega):P:=h
def zyn{P:Prop}(h:P:=by symm;rw[beq_eq_false_iff_ne];intro e;exact HN.o (by rw[<-hl.o,<-yQ.o,e])):P:=h
def Qr{P:Prop}(h:P:=by assumption):P:=h
def zeX{P:Prop}(h:P:=by rw[hl.o];exact aX _):P:=h
def zeE{P:Prop}(h:P:=by first|(simp;done)|(simp;omega)):P:=h
def Q9{P:Prop}(h:P:=by simpa using h1):P:=h
def Ts{P:Prop}(h:P:=by simpa using h2):P:=h
def zri{P:Prop}(h:P:=by unfold vD;rw[zmh HC.o (by rw[hl.o];exact aX _)];rfl):P:=h
def N1{P:Prop}(h:P:=by rw[bD]):P:=h
def Xm{P:Prop}(h:P:=by rw[eV];simp):P:=h
def zgf{P:Prop}(h:P:=by have:=t.size;omega):P:=h
def zu9{P:Prop}(h:P:=by first|(simp[Lr];done)|(simp[Lr];omega)):P:=h
def zer{P:Prop}(h:P:=by simpa using zqk.o):P:=h
def zkj{P:Prop}(h:P:=by first|exact lF|exact bO):P:=h
def zhv{P:Prop}(h:P:=by first|exact bO|exact lF):P:=h
def zg2{P:Prop}(h:P:=by simpa using hb):P:=h
def zwi{P:Prop}(h:P:=by simpa using hF 0 _ rfl hf.1 hf.2):P:=h
def zgL{P:Prop}(h:P:=by simpa using h):P:=h
def zl2{P:Prop}(h:P:=by have:=Ow.o;omega):P:=h
def zjc{P:Prop}(h:P:=by show y≠gb;omega):P:=h
end Go
namespace Go
def aU{α:Sort _}(a:α):∃y,y=a:=⟨_,rfl⟩
def zta{p:Nat->Prop}(k:∀i,p i):p 0/\p 1/\p 2:=⟨k 0,k 1,k 2⟩
def eR{p:Nat->Prop}(k:∀i,p i):p 0/\p 1/\p 2/\p 3/\p 4/\p 5/\p 6/\p 7:=⟨k 0,k 1,k 2,k 3,k 4,k 5,k 6,k 7⟩
end Go
namespace Go.Proofs.YtfcjiloojkjaeaaGreatDoor
open Go.Joins Go.ChangeShapes Go.WideShapes Go.RowKit Go.Deep
def own:ownKnob aK.godebug=none:=aP
def zja:laidOutB aK=true:=aP
end Go.Proofs.YtfcjiloojkjaeaaGreatDoor
namespace Go.Proofs.YtfcjiloojkjaeaaGreatDoor
open Go.RowKit
def inB (n lo hi:Int):Bool:=decide (lo<=n/\n<=hi)
def E5 {a b:Bool}(h:a=b):znC (.bool a)=.returned (.bool b):=by rw[h]
def Bu {k:Ez}{a b:Int}(h:a=b):znC (.int k a)=.returned (.int k b):=by rw[h]
variable {W:aE}{N:Nat}{o:tM}
def fY (hN:W.heap[N]? =some o):N<W.heap.size:=by
 rcases mX N W.heap.size with h|h
 .exact h
 .rw[Gr h] at hN;cases hN
variable {w1:aE}
def eD (hb:bR W.heap.size W w1)(hN:W.heap[N]? =some o):w1.heap[N]? =some o/\N<w1.heap.size:=
 ⟨(hb.block N (fY hN)).trans hN,lC (fY hN) hb.size⟩
def dJ (hN:W.heap[N]? =some o)(o':tM):(W.alloc o').heap[N]? =some o:=(uB W o' N (fY hN)).trans hN
variable {w:aE}
def Qw (h:bR w.heap.size w W)(hb:bR W.heap.size W w1):bR w.heap.size w w1:=h.trans (hb.mono h.size)
def dS (h:bR w.heap.size w W)(o:tM):bR w.heap.size w (W.alloc o):=h.alloc h.size o
variable {cs:Array aF}{T:aM}{fz:Nat×Nat}
def aJ (h:w.heap[N]? =some (.cells cs T fz))(o:Nat):w.cell? ⟨N,o,none⟩=cs[o]? :=cell_of_row w N o cs T fz h
def zw1 (n lo hi:Int)(w:aE):
 fH aK 49 #[.int .i64 n,.int .i64 lo,.int .i64 hi] w λe w'=>e=.returned (.bool (inB n lo hi))/\w'=w:=by
 go_enter Tryz.func49,Tryz.ntmps49
 go_wp2
 all_goals go_ret
 all_goals exact⟨E5 (by simp[inB];omega),rfl⟩
structure bX (w:aE)(lo hi s:Nat)(A:Option bL)(n c:Nat)(xs:List aF):Prop where
 len:xs.length=n*s
 le:n<=c
 cap:c<=maxLen
 at_:0<n->∃b off,A=some ⟨b,off,none⟩/\lo<=b/\b<hi/\b<w.heap.size/\∀j v,xs[j]? =some v->w.cell? ⟨b,off+j,none⟩=some v
variable {w':aE}{lo hi s n c:Nat}{A:Option bL}{xs:List aF}
def bX.keep (h:bX w lo hi s A n c xs)(hs:w.heap.size<=w'.heap.size)(k:∀b,lo<=b->b<hi->b<w.heap.size->w'.heap[b]? =w.heap[b]?):bX w' lo hi s A n c xs:=
 ⟨h.len,h.le,h.cap,λhn=>by
  obtain⟨b,off,e,h1,h2,h3,h4⟩:=h.at_ hn;exact⟨b,off,e,h1,h2,lC h3 hs,λj v hv=>(Br (k b h1 h2 h3)).trans (h4 j v hv)⟩⟩
def bX.below (h:bX w lo hi s A n c xs)(hb:bR w.heap.size w w'):bX w' lo hi s A n c xs:=
 h.keep hb.size λb _ _ h3=>hb.block b h3
def bX.alloc (h:bX w lo hi s A n c xs)(o:tM):bX (w.alloc o) lo hi s A n c xs:=
 h.keep aQ λb _ _ h3=>uB w o b h3
def bX.wide {xX gT:Nat}(h:bX w lo hi s A n c xs)(h1:xX<=lo)(h2:hi<=gT):bX w xX gT s A n c xs:=
 ⟨h.len,h.le,h.cap,λhn=>by obtain⟨b,off,e,k1,k2,k3,k4⟩:=h.at_ hn;exact⟨b,off,e,aC,aC,k3,k4⟩⟩
def jX (xs:List Int):List Value:=xs.map (aF.int .i64)
variable {k:Nat}{xs:List Int}
def zAA (h:k<xs.length):(jX xs)[k]? =some (.int .i64 xs[k]):=by simp[jX,h]
def bX.cellAt (h:bX w lo hi 1 A n c (jX xs))(hk:k<n):∃b off v,A=some ⟨b,off,none⟩/\lo<=b/\b<hi/\b<w.heap.size/\xs[k]? =some v/\w.cell? ⟨b,off+k,none⟩=some (.int .i64 v):=by
 obtain⟨b,off,e,h1,h2,h3,h4⟩:=h.at_ aC;have hl:k<xs.length:=by have:=h.len;simp[jX] at this;omega
 exact⟨b,off,xs[k],e,h1,h2,h3,lO hl,h4 k _ (zAA hl)⟩
def bX.length (h:bX w lo hi 1 A n c (jX xs)):xs.length=n:=by have:=h.len;simp[jX] at this;exact this
def zv5:(aK.info? 3).map (λi=>(i.zero,i.size,i.bytes))=some (some (.int .i64 0),1,8):=aP
def eJ (h:w.heap[N]? =some (.cells cs T))(o:Nat):w.frozen? ⟨N,o,none⟩=false:=by simp[Sa,h]
def nJ {g i:Nat}(h:w.heap[g]? =some (.cells cs T fz))(v:aF):(w.setCell ⟨g,i,none⟩ v).heap[g]? =some (.cells (cs.setIfInBounds i v) T fz):=by
 simp[zhA,zi3,h]
def SaysB (w:aE)(t:Bool)(e:Ending)(w':aE):Prop:=e=.returned (.bool t)/\∃m,w'=w.drewN m
structure pU (lo hi:Nat)(w w':aE):Prop where
 os:w'.os=w.os
 tape:w'.tape=w.tape
 output:w'.output=w.output
 size:w.heap.size<=w'.heap.size
 block:∀i,i<w.heap.size->¬(lo<=i/\i<hi)->w'.heap[i]? =w.heap[i]?
def pU.refl (lo hi:Nat)(w:aE):pU lo hi w w:=⟨rfl,rfl,rfl,aX _,λ_ _ _=>rfl⟩
variable {a b:aE}
def pU.trans {c:aE}(h:pU lo hi a b)(k:pU lo hi b c):pU lo hi a c:=
 ⟨k.os.trans h.os,k.tape.trans h.tape,k.output.trans h.output,eG h.size k.size,λi hi aT=>(k.block i (lC hi h.size) aT).trans (h.block i hi aT)⟩
def pU.of_below (h:bR a.heap.size a b):pU lo hi a b:=⟨h.os,h.tape,h.output,h.size,λi hi _=>h.block i hi⟩
def pU.setCell (h:pU lo hi a b){p:bL}(h1:lo<=p.block)(h2:p.block<hi)(v:aF):pU lo hi a (b.setCell p v):=
 ⟨h.os,h.tape,h.output,by simpa[zhA] using h.size,λi hi aT=>(eH b p v i aC).trans (h.block i hi aT)⟩
variable {xs:List aF}
def bX.chg {l' h':Nat}(h:bX w lo hi s A n c xs)(k:pU l' h' w w')(hd:hi<=l'\/h'<=lo):bX w' lo hi s A n c xs:=
 h.keep k.size λb h1 h2 h3=>k.block b h3 aC
structure Own (w:aE)(lo hi:Nat)(A:Option bL)(n c:Nat)(xs:List Int):Prop where
 slc:bX w lo hi 1 A n c (jX xs)
 blk:0<n->∃b cs,A=some ⟨b,0,none⟩/\w.heap[b]? =some (.cells cs 3)/\n<=cs.size
structure rS (E s:Nat)(w:aE)(lo hi:Nat)(A:Option bL)(n c:Nat)(xs:List aF):Prop where
 slc:bX w lo hi s A n c xs
 blk:0<n->∃b cs,A=some ⟨b,0,none⟩/\w.heap[b]? =some (.cells cs E)/\n*s<=cs.size
section
variable {E s:Nat}{w w':aE}{lo hi n c:Nat}{A:Option bL}{xs:List aF}
def rS.keep (h:rS E s w lo hi A n c xs)(hs:w.heap.size<=w'.heap.size)(k:∀b,lo<=b->b<hi->b<w.heap.size->w'.heap[b]? =w.heap[b]?):rS E s w' lo hi A n c xs:=
 ⟨h.slc.keep hs k,λhn=>by
  obtain⟨b,cs,e,hb,hc⟩:=h.blk hn;obtain⟨b',off,e',h1,h2,h3,_⟩:=h.slc.at_ hn;rw[e] at e';injection e' with e';injection e' with e1 e2 e3;subst e1;exact⟨b,cs,e,(k b h1 h2 h3).trans hb,hc⟩⟩
def rS.chg {l' h':Nat}(h:rS E s w lo hi A n c xs)(k:pU l' h' w w')(hd:hi<=l'\/h'<=lo):rS E s w' lo hi A n c xs:=
 h.keep k.size λb h1 h2 h3=>k.block b h3 aC
def rS.below (h:rS E s w lo hi A n c xs)(k:bR w.heap.size w w'):rS E s w' lo hi A n c xs:=h.keep k.size λb _ _ h3=>k.block b h3
def zjw {base:Nat}{v:aF}(h:w.ownsRow base E s v n xs)(hs:0<s):∃A c,v=.slice A n c/\rS E s w base w.heap.size A n c xs:=by
 obtain⟨hl,h|⟨g,cap,cur,rfl,hb,hg,hn,hc,cJ,ht⟩⟩:=h
 .obtain⟨rfl,rfl⟩:=h
  exact⟨none,0,rfl,⟨⟨hl,aX _,jY _,λh=>absurd h aC⟩,λh=>absurd h aC⟩⟩
 .refine⟨_,cap,rfl,⟨⟨hl,hn,hc,λh0=>⟨g,0,rfl,hb,fY hg,fY hg,λj v hv=>?_⟩⟩,λh0=>⟨g,cur,rfl,hg,by rw[cJ];exact Am _ hn⟩⟩⟩
  rw[qZ,aJ hg];rw[<-ht] at hv;have hj:j<n*s:=by
   rcases mX j (n*s) with h|h
   .exact h
   .rw[Cu (by rw[rV];omega)] at hv;cases hv
  rw[List.getElem?_take_of_lt hj] at hv;simpa using hv
def bX.cells (h:bX w lo hi s A n c xs){k:Nat}(hk:k<n):∃b off,A=some ⟨b,off,none⟩/\lo<=b/\b<hi/\b<w.heap.size/\∀f v,xs[k*s+f]? =some v->w.cell? ⟨b,off+(k*s+f),none⟩=some v:=by
 obtain⟨b,off,e,h1,h2,h3,h4⟩:=h.at_ aC;exact⟨b,off,e,h1,h2,h3,λf v hv=>h4 _ v hv⟩
end
variable {E:Nat}
def zCx {m:Nat}(hb:w'.heap[w.heap.size]? =some (.cells cs E))(hz:w.heap.size<w'.heap.size)(hn:cs.size=m*s)(hm:n<=m)(zwu:m<=maxLen)(hx:xs.length=n*s)
 (hc:∀j,j<n*s->cs[j]? =xs[j]?):rS E s w' w.heap.size w'.heap.size (some ⟨w.heap.size,0,none⟩) n m xs:=
 ⟨⟨
  hx,hm,zwu,λh0=>⟨_,0,rfl,aX _,hz,hz,λj v hv=>by
  have hj:j<n*s:=by
   rcases mX j (n*s) with h|h
   .exact h
   .rw[Cu aC] at hv;cases hv
  rw[qZ,aJ hb,hc j hj,hv]⟩⟩,λ_=>⟨_,cs,rfl,hb,by rw[hn];exact Am _ hm⟩⟩
def str_eq {s s':ByteArray}(h:(s.toList==s'.toList)=true):s=s':=by
 rw[beq_iff_eq,zx9,zx9] at h;exact ByteArray.ext (Array.toList_inj.1 h)
variable {α:Type}
def Hm (f:α->List aF)(hf:∀a,(f a).length=s):∀(l:List α) (k i:Nat),i<s->(l.flatMap f)[k*s+i]? =(l[k]?).bind λa=>(f a)[i]?
 |[],k,i,_=>by simp
 |a::l,0,i,hi=>by
  rw[zcT,zcb,qZ,List.getElem?_append_left (by rw[hf];exact hi)];rfl
 |a::l,k+1,i,hi=>by
  rw[zcT,List.getElem?_append_right (by rw[hf,zjq];omega),hf,show(k+1)*s+i-s=k*s+i by rw[zjq];omega,Hm f hf l k i hi];rfl
def Fb (f:α->List aF)(hf:∀a,(f a).length=s)(l:List α):(l.flatMap f).length=l.length*s:=by
 induction l with
 |nil=>simp
 |cons a l ih=>rw[zcT,gM,ih,hf,qA,zjq];omega
variable {v:aF}
def zvS {W':aE}{base n:Nat}{w0:aE}(h:w0.ownsRow base E s v n xs)(g:W.grownBy W' v.ownBlock)(hb:base<=W.heap.size):bR base W W':=
 ⟨g.os,g.tape,g.output,g.size,λi hi=>g.block i aC (by
  obtain⟨_,h|⟨b,cap,cur,rfl,h1,_⟩⟩:=h
  .rw[h.1];simp[Lr]
  .simp[Lr];omega)⟩
def zjQ {base n:Nat}(h:w.ownsRow base E s v n xs)(hv:¬v=.slice none 0 0):∃g c,v=.slice (some ⟨g,0,none⟩) n c:=by
 obtain⟨_,h|⟨b,cap,cur,rfl,h1,_⟩⟩:=h
 .exact absurd h.1 hv
 .exact⟨b,cap,rfl⟩
def Pd {base g:Nat}(hb:base<=g)(hg:w.heap[g]? =some (.cells #[] E)):w.ownsRow base E s (.slice (some ⟨g,0,none⟩) 0 0) 0 []:=
 ⟨aQ,.inr ⟨g,0,#[],rfl,hb,hg,aX _,jY _,aQ,aQ⟩⟩
def Aj {base n:Nat}(h:w.ownsRow base E s v n xs)(hb:∀b,b<w.heap.size->w'.heap[b]? =w.heap[b]?):w'.ownsRow base E s v n xs:=by
 obtain⟨hl,h|⟨g,cap,cur,rfl,h1,hg,h2⟩⟩:=h
 .exact⟨hl,.inl h⟩
 .exact⟨hl,.inr ⟨g,cap,cur,rfl,h1,(hb g (fY hg)).trans hg,h2⟩⟩
def zpi {base n:Nat}(h:w.ownsRow base E s v n xs)(hb:bR w.heap.size w w'):w'.ownsRow base E s v n xs:=Aj h λb h=>hb.block b h
def J4 (h:w.heap[N]? =some o):w.drew.heap[N]? =some o:=h
def zby {B:Nat}(h:bR B a w):bR B a w.drew:=⟨h.os,h.tape,h.output,h.size,h.block⟩
def mV (w:aE)(o:tM){b:Nat}(hb:b=w.heap.size):(w.alloc o).heap[b]? =some o:=by subst hb;exact lQ w o
section
variable {P:bS}(w:aE)
def zm2 (t ty:aM)(base:Nat)(e:aM)(i:wW)(z:aF)(size bytes:Nat)(ht:P.underlying t=some (.slice e))(hi:P.info? e=some i)(hz:i.zero=some z)
 (xH:i.size=size) (uM:i.bytes=bytes) (hzs:z.cells.size=size) (cJ:0<size)
 (v:aF) (n:Nat) (xs:List aF) (cV:w.ownsRow base e size v n xs) (hv:¬v=.slice none 0 0)
 (ad:bL) (m c:Nat) (news:List aF) (hl:news.length=m*size) (Ew:∀j u,news[j]? =some u->w.cell? (ad.add j)=some u) (h1:∀u∈news,u.oneCell'=true)
 (wN:n+m<=maxLen) (wO:(n+m)*bytes<=140737488355328) (sC:base<=w.heap.size):
 ∃g cap w',(xF #[t,t] ty #[v,.slice (some ad) m c]).run P w=.ok (.slice (some ⟨g,0,none⟩) (n+m) cap) w'/\
  w'.ownsRow base e size (.slice (some ⟨g,0,none⟩) (n+m) cap) (n+m) (xs++news)/\w.grownBy w' v.ownBlock/\bR base w w':=by
 obtain⟨v',w',hr,h2,h3,h4,h5⟩:=ztT (P:=P) w base t ty e i z size bytes ht hi hz xH uM hzs cJ v n xs cV ad m c news hl Ew h1 wN wO sC;obtain⟨g,cap,rfl⟩:=zjQ h2 (λh=>hv (h4.1 h).1);exact⟨g,cap,w',hr,h2,h3,zvS cV h3 sC⟩
variable {o:aZ}{a:Act}
def zvB {K:Act->aE->Prop}{Q:Exit->Act->aE->Prop}(s x:cN)(t:aM)
 (ho:o.op=.call {callee:=.builtin .append,args:=#[s,x],argTypes:=#[t,t]})
 (base:Nat) (e:aM) (i:wW) (z:aF) (size bytes:Nat) (ht:P.underlying t=some (.slice e)) (hi:P.info? e=some i) (hz:i.zero=some z)
 (xH:i.size=size) (uM:i.bytes=bytes) (hzs:z.cells.size=size) (cJ:0<size)
 (v:aF) (n:Nat) (xs:List aF) (hs:a.eval s=v) (cV:w.ownsRow base e size v n xs) (hv:¬v=.slice none 0 0)
 (ad:bL) (m c:Nat) (news:List aF) (hx:a.eval x=.slice (some ad) m c) (hl:news.length=m*size) (Ew:∀j u,news[j]? =some u->w.cell? (ad.add j)=some u) (h1:∀u∈news,u.oneCell'=true)
 (wN:n+m<=maxLen) (wO:(n+m)*bytes<=140737488355328) (sC:base<=w.heap.size)
 (h:∀g cap w',w'.ownsRow base e size (.slice (some ⟨g,0,none⟩) (n+m) cap) (n+m) (xs++news)->w.grownBy w' v.ownBlock->bR base w w'->K (a.put o.dst (.slice (some ⟨g,0,none⟩) (n+m) cap)) w'):o.wp P a w K Q:=by
 obtain⟨g,cap,w',hr,h2,h3,h4⟩:=zm2 (P:=P) w t o.type base e i z size bytes ht hi hz xH uM hzs cJ v n xs cV hv ad m c news hl Ew h1 wN wO sC;unfold By execOp;simp only[ho,resolve,invoke,builtin,E6,Ht,D7,uS,fK,tL,hs,hx,hr];exact h g cap w' h2 h3 h4
variable {ops:Array aZ}
def zvv {rest:List aZ}{Q:Exit->Act->aE->Prop}(Fl:o.guard=none)(s x:cN)(t:aM)
 (ho:o.op=.call {callee:=.builtin .append,args:=#[s,x],argTypes:=#[t,t]})
 (base:Nat) (e:aM) (i:wW) (z:aF) (size bytes:Nat) (ht:P.underlying t=some (.slice e)) (hi:P.info? e=some i) (hz:i.zero=some z)
 (xH:i.size=size) (uM:i.bytes=bytes) (hzs:z.cells.size=size) (cJ:0<size)
 (v:aF) (n:Nat) (xs:List aF) (hs:a.eval s=v) (cV:w.ownsRow base e size v n xs) (hv:¬v=.slice none 0 0)
 (ad:bL) (m c:Nat) (news:List aF) (hx:a.eval x=.slice (some ad) m c) (hl:news.length=m*size) (Ew:∀j u,news[j]? =some u->w.cell? (ad.add j)=some u) (h1:∀u∈news,u.oneCell'=true)
 (wN:n+m<=maxLen) (wO:(n+m)*bytes<=140737488355328) (sC:base<=w.heap.size)
 (h:∀g cap w',w'.ownsRow base e size (.slice (some ⟨g,0,none⟩) (n+m) cap) (n+m) (xs++news)->w.grownBy w' v.ownBlock->bR base w w'->wpList P ops Q rest (a.put o.dst (.slice (some ⟨g,0,none⟩) (n+m) cap)) w'):wpList P ops Q (o::rest) a w:=
 wpList_plain Fl λ_ hK=>zvB w s x t ho base e i z size bytes ht hi hz xH uM hzs cJ v n xs hs cV hv ad m c news hx hl Ew h1 wN wO sC λg cap w' h2 h3 h4=>hK _ _ (h g cap w' h2 h3 h4)
def zvI {K:Act->aE->Prop}{Q:Exit->Act->aE->Prop}{EE:Prop}(Fl:o.guard=none)(s x:cN)(t:aM)
 (ho:o.op=.call {callee:=.builtin .append,args:=#[s,x],argTypes:=#[t,t]})
 (base:Nat) (e:aM) (i:wW) (z:aF) (size bytes:Nat) (ht:P.underlying t=some (.slice e)) (hi:P.info? e=some i) (hz:i.zero=some z)
 (xH:i.size=size) (uM:i.bytes=bytes) (hzs:z.cells.size=size) (cJ:0<size)
 (v:aF) (n:Nat) (xs:List aF) (hs:a.eval s=v) (cV:w.ownsRow base e size v n xs) (hv:¬v=.slice none 0 0)
 (ad:bL) (m c:Nat) (news:List aF) (hx:a.eval x=.slice (some ad) m c) (hl:news.length=m*size) (Ew:∀j u,news[j]? =some u->w.cell? (ad.add j)=some u) (h1:∀u∈news,u.oneCell'=true)
 (wN:n+m<=maxLen) (wO:(n+m)*bytes<=140737488355328) (sC:base<=w.heap.size)
 (h:∀g cap w',w'.ownsRow base e size (.slice (some ⟨g,0,none⟩) (n+m) cap) (n+m) (xs++news)->w.grownBy w' v.ownBlock->bR base w w'->K (a.put o.dst (.slice (some ⟨g,0,none⟩) (n+m) cap)) w'):
 if dD o (dR ops a.tmps)=true then By P o a w K Q else EE:=by
 have hw:dD o (dR ops a.tmps)=true:=by simp[dD,Fl]
 rw[if_pos hw];exact zvB w s x t ho base e i z size bytes ht hi hz xH uM hzs cJ v n xs hs cV hv ad m c news hx hl Ew h1 wN wO sC h
end
def zpC (xs:List Int):∀u∈jX xs,u.oneCell'=true:=by
 intro u hu;obtain⟨x,_,rfl⟩:=Ir.1 hu;rfl
def Ak {base n c:Nat}(h:w.ownsRow base E s (.slice A n c) n xs)(hs:0<s):bX w base w.heap.size s A n c xs:=by
 obtain⟨A',c',e,o⟩:=zjw h hs;injection e with e1 e2 e3;subst e1 e3;exact o.slc
def Vn (u:Nat):List UInt8:=if u=0 then[] else Iw u
def To (k:Nat):ByteArray:=⟨(109::(if k=0 then[48] else Iw k)).toArray⟩
def zFm {u:Nat}(h:0<u):Vn u=Vn (u/10)++[U4 (48+u%10)]:=by
 unfold Vn;rw[if_neg aC];by_cases Hg:u<10
 .rw[if_pos aC,zrS Hg,Nat.mod_eq_of_lt Hg];rfl
 .rw[if_neg aC,Iw,dif_neg Hg]
def I9 (a b:Array UInt8):(⟨a⟩:ByteArray)++⟨b⟩=⟨a++b⟩:=by
 apply ByteArray.ext;simp[ByteArray.data_append]
def M2 (hk:k<=100000000):(Iw k).length<=20:=by
 rw[Lib.decDigits_length];exact Lib.nDigits_le20 k aC
def cv1 (w:aE)(x:Nat)(hx:x<=255):(convert 42 9 (.slice (some ⟨w.heap.size,0,none⟩) 1 1)).run aK (w.alloc (.cells #[.int .u8 (x:Int)] 5))=.ok (.string ⟨[U4 x].toArray⟩) (w.alloc (.cells #[.int .u8 (x:Int)] 5)):=
 run_convert_bytes_back (P:=aK) _ 42 9 5 ⟨w.heap.size,0,none⟩ 1 [U4 x] Tryz.underlying42 Tryz.underlying5 Tryz.underlying9 (λj hj=>by
  obtain rfl:j=0:=by simp at hj;omega
  simp[zg0];omega)
def zkw (k:Nat)(hk:k<=100000000)(w:aE):
 fH aK 44 #[.int .i64 k] w λe w'=>e=.returned (.string (To k))/\bR w.heap.size w w':=by
 by_cases h0:k=0
 .subst h0
  go_enter zxy,zx8
  go_wp2;go_ret;exact⟨rfl,eF _ _⟩
 .go_enter zxy,zx8
  go_wp2
  go_loopw [0,3] (λa s wr=>∃(u:Nat) (l:List UInt8),a=.int .i64 u/\s=.string ⟨l.toArray⟩/\u<=100000000/\Vn u++l=Iw k/\bR w.heap.size w wr) (λa _ _=>(intOf a).toNat)
  case atStart=>exact⟨k,[],rfl,rfl,hk,by simp[Vn,h0],eF _ _⟩
  case round=>
   obtain⟨u,l,rfl,rfl,hu,hl,B⟩:=hrel;have HL:=aD hl;by_cases aN:0<u
   .have Z0:=cv1 wr (48+u%10) aC
    rw[show((48+u%10:Nat):Int)=48+(u:Int)%10 by omega] at Z0;have Ea:l.length<=20:=by have:=congrArg Wm HL.o;rw[gM] at this;have:=M2 (k:=k) aC;omega
    have HD:=aD (zFm aN);go_wp2;go_roundw
    case rel=>exact⟨u/10,U4 (48+u%10)::l,by first|rfl|(congr 1;omega),by rw[I9];simp,aC,by rw[<-HL.o,HD.o];simp,dS B _⟩
    case measure=>simp[intOf];omega
   .have zIz:u=0:=aC
    subst zIz;have Ea:l.length<=20:=by have:=congrArg Wm HL.o;rw[gM] at this;have:=M2 (k:=k) aC;omega
    have HT:=aD (show(⟨#[109]⟩:ByteArray)++⟨l.toArray⟩=To k by rw[I9,To,if_neg h0,<-HL.o];simp[Vn]);go_wp2;go_ret;exact⟨by rw[HT.o];rfl,B⟩
end Go.Proofs.YtfcjiloojkjaeaaGreatDoor
namespace Go.Proofs.YtfcjiloojkjaeaaGreatDoor
open Go.Joins Go.ChangeShapes Go.WideShapes Go.RowKit Go.Deep
section
variable {H:Type}{enc:aM×aF->H}{P:bS}{w:aE}{base:Nat}{held:Bool}
def add_plain (b off j:Nat):(bL.mk b off none).add j=⟨b,off+j,none⟩:=by unfold zg0;split<;>simp_all
end
end Go.Proofs.YtfcjiloojkjaeaaGreatDoor
namespace Go.Proofs.YtfcjiloojkjaeaaGreatDoor
open Go.RowKit
structure bT where
 c:Int
 l:Int
 o:Int
 f:Int
 h:Int
 t:Int
 e:ByteArray
 deriving DecidableEq
def bT.cells (d:bT):List Value:=[.int .i64 d.c,.int .i64 d.l,.int .i64 d.o,.int .i64 d.f,.int .i64 d.h,.int .i64 d.t,.string d.e]
def recs (ds:List bT):List Value:=ds.flatMap bT.cells
def ztz (ds:List bT):(recs ds).length=ds.length*7:=Fb bT.cells (s:=7) (λ_=>rfl) ds
variable {ds:List bT}{k:Nat}
def zGZ {d:bT}(h:ds[k]? =some d):(recs ds)[k*7+0]? =some (.int .i64 d.c)/\(recs ds)[k*7+1]? =some (.int .i64 d.l)/\(recs ds)[k*7+2]? =some (.int .i64 d.o)/\(recs ds)[k*7+3]? =some (.int .i64 d.f)/\(recs ds)[k*7+4]? =some (.int .i64 d.h)/\(recs ds)[k*7+5]? =some (.int .i64 d.t)/\(recs ds)[k*7+6]? =some (.string d.e):=by
 have e:=λi hi=>Hm bT.cells (s:=7) (λ_=>rfl) ds k i hi;unfold recs;rw[e 0 aC,e 1 aC,e 2 aC,e 3 aC,e 4 aC,e 5 aC,e 6 aC,h];exact⟨rfl,rfl,rfl,rfl,rfl,rfl,rfl⟩
variable {w:aE}{lo hi n c:Nat}{A:Option bL}
def bX.recLen (h:bX w lo hi 7 A n c (recs ds)):ds.length=n:=by
 have:=h.len;rw[ztz] at this;omega
structure RecAt (w:aE)(b off:Nat)(d:bT):Prop where
 c0:w.cell? ⟨b,off,none⟩=some (.int .i64 d.c)
 c1:w.cell? ⟨b,off+1,none⟩=some (.int .i64 d.l)
 c2:w.cell? ⟨b,off+2,none⟩=some (.int .i64 d.o)
 c3:w.cell? ⟨b,off+3,none⟩=some (.int .i64 d.f)
 c4:w.cell? ⟨b,off+4,none⟩=some (.int .i64 d.h)
 c5:w.cell? ⟨b,off+5,none⟩=some (.int .i64 d.t)
 c6:w.cell? ⟨b,off+6,none⟩=some (.string d.e)
def bX.recAt (h:bX w lo hi 7 A n c (recs ds))(hk:k<n):
 ∃b off d,A=some ⟨b,off,none⟩/\lo<=b/\b<hi/\b<w.heap.size/\ds[k]? =some d/\RecAt w b (off+k*7) d:=by
 obtain⟨b,off,e,h1,h2,h3,h4⟩:=h.cells hk;have hl:k<ds.length:=by rw[h.recLen];exact hk
 obtain⟨g0,g1,g2,g3,g4,g5,g6⟩:=zGZ (lO hl);exact⟨b,off,ds[k],e,h1,h2,h3,lO hl,⟨h4 0 _ g0,h4 1 _ g1,h4 2 _ g2,h4 3 _ g3,h4 4 _ g4,h4 5 _ g5,h4 6 _ g6⟩⟩
def recP (c l o f h t:Int)(e:List UInt8):Prop:=
 1<=c/\c<=99/\1<=l/\l<=6/\0<=o/\o<=4/\0<=f/\f<=3600/\
  (
   (e=[111,112,101,110]/\t= -1/\((o=0/\h= -1)\/(o≠0/\f<=h/\h<=3600)))\/
   (e=[100,111,110,101]/\o≠0/\f<=h/\h<=t/\t<=3600)\/
   ((e=[108,101,102,116]\/e=[116,105,114,101,100])/\o=0/\h= -1/\f<=t/\t<=3600))
instance (c l o f h t:Int)(e:List UInt8):Decidable (recP c l o f h t e):=by unfold recP;infer_instance
def recB (c l o f h t:Int)(e:List UInt8):Bool:=decide (recP c l o f h t e)
def overP (o f h t:Int)(e:List UInt8):Prop:=
 (e=[100,111,110,101]/\0<o/\f<=h/\h<=t/\t<=3600/\f<=t)\/
  ((e=[108,101,102,116]\/e=[116,105,114,101,100])/\o=0/\h= -1/\f<=t/\t<=3600)
instance (o f h t:Int)(e:List UInt8):Decidable (overP o f h t e):=by unfold overP;infer_instance
def bX.rec7 (h:bX w lo hi 7 A n c (recs ds))(hk:k<n):
 ∃b off d,A=some ⟨b,off,none⟩/\lo<=b/\b<hi/\b<w.heap.size/\ds[k]? =some d/\w.cell? ⟨b,off+k*7,none⟩=some (.int .i64 d.c)/\w.cell? ⟨b,off+k*7+1,none⟩=some (.int .i64 d.l)/\w.cell? ⟨b,off+k*7+2,none⟩=some (.int .i64 d.o)/\w.cell? ⟨b,off+k*7+3,none⟩=some (.int .i64 d.f)/\w.cell? ⟨b,off+k*7+4,none⟩=some (.int .i64 d.h)/\w.cell? ⟨b,off+k*7+5,none⟩=some (.int .i64 d.t)/\w.cell? ⟨b,off+k*7+6,none⟩=some (.string d.e):=by
 obtain⟨b,off,d,e,h1,h2,h3,hd,⟨c0,c1,c2,c3,c4,c5,c6⟩⟩:=h.recAt hk;exact⟨b,off,d,e,h1,h2,h3,hd,c0,c1,c2,c3,c4,c5,c6⟩
def zqA:(aK.info? 50).map (λi=>(i.zero,i.size,i.bytes))=some (some (.agg #[.int .i64 0,.int .i64 0,.int .i64 0,.int .i64 0,.int .i64 0,.int .i64 0,.string ⟨#[]⟩]),7,64):=aP
variable {α:Type}
def zFl {l:List α}{a:α}(h:l[k]? =some a):l.drop k=a::l.drop (k+1):=by
 obtain⟨hk,e⟩:=kE.1 h;rw[List.drop_eq_getElem_cons hk,e]
def zBG {p:α->Bool}{l:List α}{a:α}(h:∀j,j<k->∀b,l[j]? =some b->p b=true)(hk:l[k]? =some a)(ha:p a=true):∀j,j<k+1->∀b,l[j]? =some b->p b=true:=by
 intro j hj b hb;by_cases e:j=k
 .subst e;rw[hk] at hb;injection hb with hb;subst hb;exact ha
 .exact h j aC b hb
def zHT {p:α->Bool}{l:List α}(h:∀j,j<k->∀b,l[j]? =some b->p b=true)(hk:l.length<=k):l.all p=true:=by
 rw[List.all_eq_true];intro a ha;obtain⟨j,hj,e⟩:=Kj.1 ha;exact h j aC a (by rw[lO hj,e])
def zEB {p:α->Bool}{l:List α}{a:α}(hk:l[k]? =some a)(ha:p a=false):l.all p=false:=by
 rw[List.all_eq_false];exact⟨a,dX hk,by simp[ha]⟩
structure bJ where
 c:Int
 p:Int
 deriving DecidableEq
def bJ.cells (x:bJ):List Value:=[.int .i64 x.c,.int .i64 x.p]
def bF (xs:List bJ):List Value:=xs.flatMap bJ.cells
structure jD where
 ln:Int
 op:Int
 pt:Int
 deriving DecidableEq
structure dB where
 k:ByteArray
 a:Int
 b:Int
 deriving DecidableEq
def dB.cells (x:dB):List Value:=[.string x.k,.int .i64 x.a,.int .i64 x.b]
def lL (xs:List dB):List Value:=xs.flatMap dB.cells
def eI (d:bT):Bool:=d.e.toList==[111,112,101,110]
def Ao (c:Int)(d:bT):Bool:=d.c==c&&eI d
def jJ (rs:List bT)(c:Int):Option Nat:=rs.findIdx? (Ao c)
def F0:Option Nat->Int
 |some i=>(i:Int)
 |none=>-1
def wA (op:Int)(d:bT):Bool:=d.o==op&&eI d
def dK (rs:List bT)(op:Int):Int:=match rs.find? (wA op) with|some d=>d.c|none=>0
def rB (rs:List bT)(l:Int):Bool:=rs.any λd=>d.l==l&&eI d
def x6 (rs:List bT)(n:Nat):List Int:=((gN n).map λi:Nat=>(i:Int)+1).filter λl=>!rB rs l
def oJ (o:jD)(rs:List bT):List Int:=x6 rs o.ln.toNat
def vD (xs:List bJ)(c:Int):Option Nat:=xs.findIdx? λx=>x.c==c
def dY (xs:List bJ)(c:Int):List bJ:=xs.filter λx=>x.c !=c
def tN (xs:List bJ)(c:bJ):List bJ:=xs.takeWhile (λx=>decide (c.p<=x.p))++c::xs.dropWhile (λx=>decide (c.p<=x.p))
structure b7 where
 o:jD
 clk:Int
 recs:List bT
 wait:List bJ
 back:List bJ
 log:List (List UInt8)
def Gi:ByteArray:=⟨#[100,111,110,101]⟩
def Bx:ByteArray:=⟨#[108,101,102,116]⟩
def D8:ByteArray:=⟨#[116,105,114,101,100]⟩
def eM:ByteArray:=⟨#[111,112,101,110]⟩
def Ki (b:b7)(i:Nat)(e:ByteArray):List bT:=b.recs.modify i λd=>{d with t:=b.clk,e:=e}
def G6 (rs:List bT)(i:Nat):Int:=match rs[i]? with|some d=>d.c|none=>0
def lD (b:b7)(i:Nat)(e:ByteArray):b7:={b with recs:=Ki b i e,wait:=dY b.wait (G6 b.recs i)}
def jM (n:Int):List UInt8:=K7 n
def qB (b:b7)(c:bJ):b7×List UInt8:=
 if(jJ b.recs c.c).isSome||(vD b.back c.c).isSome then(b,[107,110,111,119,110])
 else match oJ b.o b.recs with
  |[]=>({b with back:=b.back++[c]},[98,117,115,121])
  |l::_=>({b with recs:=b.recs++[⟨c.c,l,0,b.clk,-1,-1,eM⟩],wait:=tN b.wait c},[108,105,110,101,32]++jM l)
def nU (b:b7)(op:Int):b7×List UInt8:=
 if 0<dK b.recs op then(b,[116,97,108,107,115])
 else match b.wait with
  |[]=>(b,[110,111,110,101])
  |c::_=>match jJ b.recs c.c with
   |none=>(b,[])
   |some i=>({b with recs:=b.recs.modify i λd=>{d with o:=op,h:=b.clk},wait:=dY b.wait c.c},[99,97,108,108,32]++jM c.c)
def l8 (b:b7)(op:Int):b7×List UInt8:=
 if 0<dK b.recs op then(b,[116,97,108,107,115])
 else match b.back with
  |[]=>(b,[110,111,110,101])
  |c::_=>match oJ b.o b.recs with
   |[]=>(b,[98,117,115,121])
   |l::_=>({b with back:=dY b.back c.c,recs:=b.recs++[⟨c.c,l,op,b.clk,b.clk,-1,eM⟩]},[99,97,108,108,32]++jM c.c)
def opAt (rs:List bT)(i:Nat):Int:=match rs[i]? with|some d=>d.o|none=>0
def mD (b:b7)(c:Int):b7×List UInt8:=
 match jJ b.recs c with
 |some i=>if 0<opAt b.recs i then(lD b i Gi,[100,111,110,101]) else(lD b i Bx,[108,101,102,116])
 |none=>if(vD b.back c).isSome then({b with back:=dY b.back c},[111,102,102]) else(b,[103,111,110,101])
def Vk (rs:List bT)(i:Nat):Int:=match rs[i]? with|some d=>d.f|none=>0
def l5 (bt:b7×List UInt8)(x:bJ):b7×List UInt8:=
 match jJ bt.1.recs x.c with
 |none=>bt
 |some i=>if bt.1.o.pt<=bt.1.clk-Vk bt.1.recs i then
  ({lD bt.1 i D8 with back:=bt.1.back++[x]},bt.2++[32]++jM x.c) else bt
def uY (b:b7)(m:Int):b7×List UInt8:=b.wait.foldl l5 ({b with clk:=b.clk+m},[97,116,32]++jM (b.clk+m))
def Iz:List UInt8:=[114,105,110,103]
def K8:List UInt8:=[104,97,110,103]
def Hp:List UInt8:=[97,110,115,119,101,114]
def Hs:List UInt8:=[114,101,116,117,114,110]
def zai:List UInt8:=[119,97,105,116]
def eN (b:b7)(e:dB):b7×List UInt8:=
 if e.k.toList=Iz then qB b ⟨e.a,e.b⟩ else if e.k.toList=Hp then nU b e.a else if e.k.toList=Hs then l8 b e.a else if e.k.toList=K8 then mD b e.a else uY b e.a
def Js (ops:Int)(e:dB):Prop:=
 (e.k.toList=Iz/\1<=e.a/\e.a<=99/\0<=e.b/\e.b<=9)\/(e.k.toList=K8/\1<=e.a/\e.a<=99/\e.b=0)\/((e.k.toList=Hp\/e.k.toList=Hs)/\1<=e.a/\e.a<=ops/\e.b=0)\/(e.k.toList=zai/\1<=e.a/\e.a<=60/\e.b=0)
instance (ops:Int)(e:dB):Decidable (Js ops e):=by unfold Js;infer_instance
def tE (ops:Int)(e:dB):Bool:=decide (Js ops e)
def rR (o:jD):Bool:=decide (1<=o.ln/\o.ln<=6/\1<=o.op/\o.op<=4/\1<=o.pt/\o.pt<=60)
def gG (o:jD)(es:List dB):Bool:=rR o&&decide (es.length<=60)&&es.all (tE o.op)
def l7 (o:jD):b7:=⟨o,0,[],[],[],[]⟩
def Dy (bt:b7×List UInt8):b7:={bt.1 with log:=bt.1.log++[bt.2]}
def I6 (o:jD)(es:List dB):b7:=es.foldl (λb e=>Dy (eN b e)) (l7 o)
def Cr (o:jD)(es:List dB):b7:=if gG o es then I6 o es else l7 o
variable {ds:List dB}
def bX.eventsLen (h:bX w lo hi 3 A n c (lL ds)):ds.length=n:=by
 have h1:=h.len;have h2:=Fb dB.cells (s:=3) (λ_=>rfl) ds;unfold lL at h1;omega
def bX.eventsAt (h:bX w lo hi 3 A n c (lL ds))(hk:k<n):
 ∃b off d,A=some ⟨b,off,none⟩/\lo<=b/\b<hi/\b<w.heap.size/\ds[k]? =some d/\w.cell? ⟨b,off+k*3,none⟩=some (.string d.k)/\w.cell? ⟨b,off+k*3+1,none⟩=some (.int .i64 d.a)/\w.cell? ⟨b,off+k*3+2,none⟩=some (.int .i64 d.b):=by
 have hl:=h.eventsLen;have hx:ds[k]? =some ds[k]:=lO aC;have g:∀i,i<3->(lL ds)[k*3+i]? =(ds[k].cells)[i]? :=λi hi=>by
  have:=Hm dB.cells (s:=3) (λ_=>rfl) ds k i hi;rw[hx] at this;exact this
 obtain⟨b,off,rfl,h1,h2,h3,h4⟩:=h.cells hk;exact⟨b,off,ds[k],rfl,h1,h2,h3,hx,h4 0 _ (g 0 aH),by rw[Wi];exact h4 1 _ (g 1 aH),by rw[Wi];exact h4 2 _ (g 2 aH)⟩
def zgz (ds:List dB):(lL ds).length=ds.length*3:=Fb dB.cells (s:=3) (λ_=>rfl) ds
variable {d:dB}
def zrv (h:ds[k]? =some d):(lL ds)[k*3+0]? =some (.string d.k)/\(lL ds)[k*3+1]? =some (.int .i64 d.a)/\(lL ds)[k*3+2]? =some (.int .i64 d.b):=by
 have e:=λi hi=>Hm dB.cells (s:=3) (λ_=>rfl) ds k i hi;unfold lL;rw[e 0 aC,e 1 aC,e 2 aC,h];exact⟨rfl,rfl,rfl⟩
def zEU {cs:Array aF}(h:ds[k]? =some d)(hs:k*3+3<=cs.size)(hc:∀j,j<k*3->cs[j]? =(lL ds)[j]?):
 ∀j,j<(k+1)*3->(((cs.setIfInBounds (k*3) (.string d.k)).setIfInBounds (k*3+1) (.int .i64 d.a)).setIfInBounds (k*3+2) (.int .i64 d.b))[j]? =(lL ds)[j]? :=by
 intro j hj;obtain⟨g0,g1,g2⟩:=zrv h;by_cases j2:j=k*3+2
 .subst j2;rw[Kd r9,g2]
 rw[jQ aC];by_cases j1:j=k*3+1
 .subst j1;rw[Kd r9,g1]
 rw[jQ aC];by_cases j0:j=k*3
 .subst j0;rw[Kd aC];exact g0.symm
 rw[jQ aC];exact hc j aC
def bX.eventAt (h:bX w lo hi 3 A n c (lL ds))(hk:k<n):
 ∃b off d,A=some ⟨b,off,none⟩/\lo<=b/\b<hi/\b<w.heap.size/\ds[k]? =some d/\w.cell? ⟨b,off+k*3,none⟩=some (.string d.k)/\w.cell? ⟨b,off+k*3+1,none⟩=some (.int .i64 d.a)/\w.cell? ⟨b,off+k*3+2,none⟩=some (.int .i64 d.b):=by
 obtain⟨b,off,e,h1,h2,h3,h4⟩:=h.cells hk;have hl:k<ds.length:=by have:=h.len;rw[zgz] at this;omega
 obtain⟨g0,g1,g2⟩:=zrv (lO hl);exact⟨b,off,ds[k],e,h1,h2,h3,lO hl,h4 0 _ g0,h4 1 _ g1,h4 2 _ g2⟩
def bX.eventLen (h:bX w lo hi 3 A n c (lL ds)):ds.length=n:=by
 have:=h.len;rw[zgz] at this;omega
def zDn (d:dB)(w:aE):
 fH aK 41 #[.agg #[.string d.k,.int .i64 d.a,.int .i64 d.b]] w λe w'=>e=.returned (.agg #[.string d.k,.int .i64 d.a,.int .i64 d.b])/\bR w.heap.size w w':=by
 go_enter Tryz.func41,Tryz.ntmps41
 go_wp2;refine bodyPost_ret (v:=.agg #[.string d.k,.int .i64 d.a,.int .i64 d.b]) (by simp[results,Tryz.results41,go_sem]) rfl ⟨rfl,?_⟩;exact dS (dS (dS (eF _ _) _) _) _
def zHS:(aK.info? 54).map (λi=>(i.zero,i.size,i.bytes))=some (some (.agg #[.string ⟨#[]⟩,.int .i64 0,.int .i64 0]),3,32):=aP
def zG6 (n:Nat)(hn:n<=1048576):∃cs:Array aF,cs.size=n*3/\∀w:aE,(zf5 31 (.int .i64 (n:Int)) (.int .i64 (n:Int))).run aK w=.ok (.slice (some ⟨w.heap.size,0,none⟩) n n) (w.alloc (.cells cs 54)):=by
 obtain⟨i,hi,hz,hs,hb⟩:=zI zHS;refine⟨madeCells (Uf (.agg #[.string ⟨#[]⟩,.int .i64 0,.int .i64 0])) (n*3),size_madeCells _ _,λw=>?_⟩;have:=run_make (P:=aK) w 31 54 i _ Tryz.underlying31 hi hz .i64 .i64 n n aC (Int.le_refl _) (by rw[hb];omega) aC;rw[hs] at this;simpa using this
def zHk (d e:dB)(w:aE):
 fH aK 43 #[.agg #[.string d.k,.int .i64 d.a,.int .i64 d.b],.agg #[.string e.k,.int .i64 e.a,.int .i64 e.b]] w λx w'=>x=.returned (.bool (d==e))/\bR w.heap.size w w':=by
 obtain⟨s,x,y⟩:=d;obtain⟨s',x',y'⟩:=e
 go_enter Tryz.func43,Tryz.ntmps43
 go_wp2
 all_goals go_ret
 all_goals refine⟨E5 ?_,dS (dS (eF _ _) _) _⟩
 all_goals first
  |(symm;rw[beq_eq_false_iff_ne];intro h;injection h with h1 h2 h3;subst h1 h2 h3;simp_all;done)
  |(symm;rw[beq_iff_eq];obtain rfl:s=s':=str_eq (by simp_all);simp_all;done)
def zHw {W W':aE}{a0 a1 a2 b0 b1 b2:bL}{v0 v1 v2 u0 u1 u2:aF}(hb:bR W.heap.size W W')
 (h:W.cell? a0=some v0/\W.cell? a1=some v1/\W.cell? a2=some v2/\W.cell? b0=some u0/\W.cell? b1=some u1/\W.cell? b2=some u2/\bR w.heap.size w W):
 W'.cell? a0=some v0/\W'.cell? a1=some v1/\W'.cell? a2=some v2/\W'.cell? b0=some u0/\W'.cell? b1=some u1/\W'.cell? b2=some u2/\bR w.heap.size w W':=by
 have e:∀{a:bL} {v:aF},W.cell? a=some v->W'.cell? a=some v:=λ{a v} hv=>(Br (hb.block _ (zlW W _ hv))).trans hv;exact⟨e h.1,e h.2.1,e h.2.2.1,e h.2.2.2.1,e h.2.2.2.2.1,e h.2.2.2.2.2.1,Qw h.2.2.2.2.2.2 hb⟩
def zCZ {W:aE}{a0 a1 a2 b0 b1 b2:bL}{v0 v1 v2 u0 u1 u2:aF}
 (h:W.cell? a0=some v0/\W.cell? a1=some v1/\W.cell? a2=some v2/\W.cell? b0=some u0/\W.cell? b1=some u1/\W.cell? b2=some u2/\bR w.heap.size w W):
 W.drew.cell? a0=some v0/\W.drew.cell? a1=some v1/\W.drew.cell? a2=some v2/\W.drew.cell? b0=some u0/\W.drew.cell? b1=some u1/\W.drew.cell? b2=some u2/\bR w.heap.size w W.drew:=
 ⟨h.1,h.2.1,h.2.2.1,h.2.2.2.1,h.2.2.2.2.1,h.2.2.2.2.2.1,⟨h.2.2.2.2.2.2.os,h.2.2.2.2.2.2.tape,h.2.2.2.2.2.2.output,h.2.2.2.2.2.2.size,h.2.2.2.2.2.2.block⟩⟩
def zEK (lo hi n c xX gT n' c':Nat)(A A':Option bL)(ds es:List dB)(w:aE)(h:bX w lo hi 3 A n c (lL ds))(h':bX w xX gT 3 A' n' c' (lL es))(hn:n<=1048576)(sU:n'<=1048576):
 fH aK 16 #[.slice A n c,.slice A' n' c'] w λx w'=>x=.returned (.bool (ds==es))/\bR w.heap.size w w':=by
 have hl:=aD h.eventLen;have yQ:=aD h'.eventLen;by_cases aT:n=n'
 .subst aT
  go_enter zxE,zr4
  go_wp2
  go_loopw [5] (λi wr=>∃k:Nat,k<=n/\i=.int .i64 k/\bR w.heap.size w wr/\∀j,j<k->ds[j]? =es[j]?) (λi _=>n-(intOf i).toNat)
  case atStart=>exact⟨0,jY _,rfl,eF _ _,λj hj=>absurd hj aC⟩
  case round=>
   obtain⟨k,hk,rfl,B,fW⟩:=hrel;have HC:=aD fW;clear fW;by_cases aN:k<n
   .obtain⟨b,off,d,hA,_,_,h3,eK,fJ,pP,xG⟩:=(h.below B).eventAt aN
    obtain⟨b',Nh,e,zDf,_,_,zeh,Bi,zeR,zuo,zn2⟩:=(h'.below B).eventAt aN;subst hA zDf;have HX:=aD eK;have zco:=aD Bi;have S0:=And.intro fJ (And.intro pP (And.intro xG (And.intro zeR (And.intro zuo (And.intro zn2 B)))));clear eK Bi h h' fJ pP xG zeR zuo zn2 h3 zeh B;have i0:(0:Int)<=(k:Int):=aC;have i1:(k:Int)<(n:Int):=aC;obtain⟨t,ht⟩:=aU ((d==e));have HT:=aD ht;clear ht
    go_wp2_with fail
    go_region_held3 (λW=>W.cell? ⟨b,off+k*3,none⟩=some (.string d.k)/\W.cell? ⟨b,off+k*3+1,none⟩=some (.int .i64 d.a)/\W.cell? ⟨b,off+k*3+2,none⟩=some (.int .i64 d.b)/\W.cell? ⟨b',Nh+k*3,none⟩=some (.string e.k)/\W.cell? ⟨b',Nh+k*3+1,none⟩=some (.int .i64 e.a)/\W.cell? ⟨b',Nh+k*3+2,none⟩=some (.int .i64 e.b)/\bR w.heap.size w W)
     (first|exact zCZ S0|exact zHw Qr Qr)
     (first|(go_at_call 43;refine(zHk d e _).mono ?_;rintro x w2 ⟨rfl,b2⟩;rw[<-HT.o]))
    have S2:bR w.heap.size w w2:=by
     have S1:w2.cell? ⟨b,off+k*3,none⟩=some (.string d.k)/\w2.cell? ⟨b,off+k*3+1,none⟩=some (.int .i64 d.a)/\w2.cell? ⟨b,off+k*3+2,none⟩=some (.int .i64 d.b)/\w2.cell? ⟨b',Nh+k*3,none⟩=some (.string e.k)/\w2.cell? ⟨b',Nh+k*3+1,none⟩=some (.int .i64 e.a)/\w2.cell? ⟨b',Nh+k*3+2,none⟩=some (.int .i64 e.b)/\bR w.heap.size w w2:=by assumption
     exact S1.2.2.2.2.2.2
    clear S0;cases t
    .go_wp2
     go_ret;refine⟨E5 ?_,S2⟩;symm;rw[beq_eq_false_iff_ne];intro hh;subst hh;have:=HX.o.symm.trans zco.o;injection this with this;subst this;simpa using HT.o
    .go_wp2
     go_roundw
     case rel=>exact⟨k+1,aC,n6,S2,λj hj=>by
      by_cases e:j=k
      .subst e;rw[HX.o,zco.o,eq_of_beq HT.o.symm]
      .exact HC.o j aC⟩
     case measure=>simp[intOf];omega
   .have e:k=n:=aC
    subst e;clear h h';go_wp2;go_ret;exact⟨E5 (by
     symm;rw[beq_iff_eq];apply Uw;intro j;rcases mX j k with hj|hj
     .exact HC.o j hj
     .rw[Cu (by rw[hl.o];exact hj),Cu (by rw[yQ.o];exact hj)]),B⟩
 .have hq:((n:Int) !=(n':Int))=true:=by rw[bne_iff_ne];omega
  clear h h';have HN:=aD aT;clear aT
  go_enter zxE,zr4
  go_wp2;go_ret;exact⟨E5 zyn,eF _ _⟩
def G5 (l:Int):List dB->Int
 |[]=>l
 |d::ds=>if l<d.k.size then-1 else G5 (l-d.k.size) ds
def Hv (l:Int)(n:Nat)(ds:List dB):Int:=if l<n then-1 else G5 (l-n) ds
def zJl :∀{l:Int},0<=l->G5 l ds<=l:=by
 induction ds with
 |nil=>intro l h0;rw[G5];omega
 |cons d ds ih=>
  intro l h0;rw[G5];split
  .omega
  .have:=ih (l:=l-d.k.size) aC;omega
def zC1 :∀{l:Int},0<=G5 l ds->l<=1048576->∀d∈ds,d.k.size<=1048576:=by
 induction ds with
 |nil=>intro l _ _ d hd;cases hd
 |cons q ds ih=>
  intro l h hl d hd;rw[G5] at h;split at h
  .omega
  .rcases jL.1 hd with e|hd
   .subst e;omega
   .exact ih h aC d hd
variable {l:Int}
def zA4 (h:0<=Hv l n ds)(hl:l<=1048576):n<=1048576/\∀d∈ds,d.k.size<=1048576:=by
 unfold Hv at h;split at h
 .omega
 .exact⟨aC,zC1 h aC⟩
def zG1 (h:0<=l):Hv l n ds<=l:=by
 unfold Hv;split
 .omega
 .have:=zJl (ds:=ds) (l:=l-n) aC;omega
def ztp (d:dB)(l:Int)(w:aE)(h0:0<=l)(h1:l<=1048576)(hs:d.k.size<=maxLen):
 fH aK 39 #[.agg #[.string d.k,.int .i64 d.a,.int .i64 d.b],.int .i64 l] w λe w'=>e=.returned (.int .i64 (if l<d.k.size then-1 else l-d.k.size))/\bR w.heap.size w w':=by
 unfold maxLen at hs;by_cases hl:l<d.k.size
 .rw[if_pos hl]
  have hx:l-d.k.size<0:=aC
  go_enter zwZ,zxI
  go_wp2;go_ret;exact⟨rfl,dS (eF _ _) _⟩
 .rw[if_neg hl]
  have hx:0<=l-d.k.size:=aC
  go_enter zwZ,zxI
  go_wp2;go_ret;exact⟨rfl,dS (eF _ _) _⟩
def zHB (lo hi n c:Nat)(A:Option bL)(ds:List dB)(l:Int)(w:aE)(h:bX w lo hi 3 A n c (lL ds))(hd:∀d∈ds,d.k.size<=maxLen)(h0:0<=l)(h1:l<=1048576):
 fH aK 10 #[.slice A n c,.int .i64 l] w λe w'=>e=.returned (.int .i64 (Hv l n ds))/\bR w.heap.size w w':=by
 have qN:=h.le;have nM:=h.cap;unfold maxLen at nM;by_cases hl:l<n
 .have hx:l-n<0:=aC
  have H:=aD (if_pos hl:Hv l n ds= -1)
  go_enter zpz,zvy
  go_wp2;go_ret;exact⟨Bu H.o.symm,eF _ _⟩
 .have hx:0<=l-n:=aC
  have H:=aD (if_neg hl:Hv l n ds=G5 (l-n) ds);have HL:=aD h.eventLen;have HD:=aD hd
  go_enter zpz,zvy
  go_wp2
  go_loopw [1,5] (λq i wr=>∃(k:Nat) (m:Int),k<=n/\q=.int .i64 m/\i=.int .i64 k/\0<=m/\m<=1048576/\G5 m (ds.drop k)=G5 (l-n) ds/\bR w.heap.size w wr) (λ_ i _=>n-(intOf i).toNat)
  case atStart=>exact⟨0,l-n,jY _,rfl,rfl,aC,aC,aQ,eF _ _⟩
  case round=>
   obtain⟨k,m,hk,rfl,rfl,m0,m1,hs,B⟩:=hrel;by_cases aN:k<n
   .obtain⟨b,off,d,rfl,_,_,h3,eK,fJ,pP,xG⟩:=(h.below B).eventAt aN
    rw[zFl eK,G5] at hs;have uR:=HD.o d (dX eK);by_cases hm:m<d.k.size
    .rw[if_pos hm] at hs
     have HS:=aD hs
     go_wp2_with fail
     refine(ztp d m _ m0 m1 uR).mono ?_;rintro e w1 ⟨rfl,b1⟩;rw[if_pos hm];have B1:=Qw B b1;go_wp2;go_ret;exact⟨Bu (HS.o.trans H.o.symm),B1⟩
    .rw[if_neg hm] at hs
     have HS:=aD hs;have Oe:0<=m-d.k.size:=aC
     go_wp2_with fail
     refine(ztp d m _ m0 m1 uR).mono ?_;rintro e w1 ⟨rfl,b1⟩;rw[if_neg aC];have B1:=Qw B b1;go_wp2;go_roundw
     case rel=>exact⟨k+1,m-d.k.size,aC,rfl,n6,aC,aC,HS.o,B1⟩
     case measure=>simp[intOf];omega
   .have e:k=n:=aC
    subst e;rw[List.drop_of_length_le (by rw[HL.o];exact aX _),G5] at hs;have HS:=aD hs;go_wp2;go_ret;exact⟨Bu (HS.o.trans H.o.symm),B⟩
def zzi (lo hi n c:Nat)(A:Option bL)(xs:List aF)(k0:Nat)(w:aE)(h:rS 54 3 w lo hi A n c xs)(hn:n<=1048576)(gV:k0<=10000000):
 fH aK 17 #[.slice A n c,.int .i64 k0] w λe w'=>e=.returned (.int .i64 ((k0+3*n:Nat):Int))/\pU lo hi w w':=by
 by_cases zaq:n=0
 .subst zaq
  go_enter zn4,zpP
  go_wp2
  go_loopw [1,5] (λq i wr=>q=.int .i64 k0/\i=.int .i64 0/\wr=w) (λ_ _ _=>0)
  case atStart=>exact⟨rfl,rfl,rfl⟩
  case round=>
   obtain⟨rfl,rfl,rfl⟩:=hrel;go_wp2;go_ret;exact⟨rfl,pU.refl _ _ _⟩
 .obtain⟨b,xS,rfl,Gy,Ia⟩:=h.blk aC
  obtain⟨b',Nh,he,dQ,Ll,aN,_⟩:=h.slc.at_ aC;simp only[fT,zl3,and_true] at he;obtain⟨rfl,rfl⟩:=he;have Nk:=aD Gy;have zml:=aD Ia
  go_enter zn4,zpP
  go_wp2
  go_loopw [1,5] (λq i wr=>∃k:Nat,k<=n/\q=.int .i64 ((k0+3*k:Nat):Int)/\i=.int .i64 k/\pU lo hi w wr/\∃cs:Array aF,wr.heap[b]? =some (.cells cs 54)/\n*3<=cs.size) (λ_ i _=>n-(intOf i).toNat)
  case atStart=>exact⟨0,jY _,rfl,rfl,pU.refl _ _ _,xS,Nk.o,zml.o⟩
  case round=>
   obtain⟨k,hk,rfl,rfl,C,cs,hb,fW⟩:=hrel;by_cases ztn:k<n
   .have Ow:=aD fW
    have zoS:=fY hb
    go_wp2_with fail
    refine(zkw (k0+3*k) aC _).mono ?_;rintro e w1 ⟨rfl,b1⟩;obtain⟨qG,z1⟩:=eD b1 hb;have C1:=C.trans (pU.of_below b1);have e0:=aJ qG (k*3);have e1:=aJ qG (k*3+1);have e2:=aJ qG (k*3+2);have hf:=eJ qG;rw[mK zl2] at e0 e1 e2;have pX:=aD qG;obtain⟨q,hq⟩:=aU (k0+3*k);rw[<-hq];have zre:q<=20000000:=aC;have HQ:=aD hq;go_wp2;go_roundw
    case rel=>exact⟨k+1,aC,by rw[show k0+3*(k+1)=q+3 by have:=HQ.o;omega];go_num,n6,((C1.setCell dQ Ll _).setCell dQ Ll _).setCell dQ Ll _,_,nJ (nJ (nJ pX.o _) _) _,by simp;exact Ow.o⟩
    case measure=>simp[intOf];omega
   .have e:k=n:=aC
    subst e;go_wp2;go_ret;exact⟨rfl,C⟩
end Go.Proofs.YtfcjiloojkjaeaaGreatDoor
namespace Go.Proofs.YtfcjiloojkjaeaaGreatDoor
open Go.Joins Go.ChangeShapes Go.WideShapes Go.RowKit Go.Deep
section
variable {H:Type}{enc:aM×aF->H}{P:bS}{w:aE}{base:Nat}{held:Bool}
variable {A:Option bL}{p:List ztj}
def zzW {α:Type}[Inhabited α](f:α->List aF)(Q:α->Prop){s:Nat}(hs:0<s)(hf:∀a,(f a).length=s){t e:aM}{len cap:Nat}{d:DataW H}(ht:P.underlying t=some (.slice e))(hc:P.cellsOf e=s)
 (Bo:∀(n:Nat) (cs:List aF) (x:DataW H×List ztj),DataW.trod enc P w base (λ_=>true) held n e cs=some x->cs.length=s->∃a,cs=f a/\Q a)
 (h:zsx enc P w base (λ_=>true) held t (.slice A len cap) d p):∃ds:List α,bX w 0 w.heap.size s A len cap (ds.flatMap f)/\∀d∈ds,Q d:=by
 obtain⟨fuel,At⟩:=h;rcases open_slice ht At with⟨fW,_⟩|⟨a,len',Pt,m,n,D,Pl,fW,_,hl,hm,Oe,_,hx⟩
 .simp[Uf] at fW
  obtain⟨rfl,rfl,rfl⟩:=fW;exact⟨[],⟨aQ,aX _,jY _,λh0=>absurd h0 aC⟩,λd hd=>by cases hd⟩
 .simp[Uf] at fW
  obtain⟨rfl,rfl,rfl⟩:=fW;simp at Oe;subst Oe;rw[hc] at hx
  obtain⟨V,hV⟩:=choose_lt (α:=α) (n:=len) (p:=λi v=>(∀j u,(f v)[j]? =some u->w.cell? ((a.add (i*s)).add j)=some u)/\Q v) (λi hi=>by
   obtain⟨Xd,h1,h2⟩:=hx i aC;obtain⟨_,hlen,zAd⟩:=aE.cells?_some h1;obtain⟨v,rfl,hQ⟩:=Bo n Xd _ h2 hlen;refine⟨v,λj u hu=>?_,hQ⟩;have hj:j<s:=by rw[<-hf v];exact(kE.1 hu).1
   have:=zAd j hj;rw[this,hu])
  refine⟨(gN len).map V,⟨by rw[Fb f hf];simp,hl,hm,λh0=>?_⟩,λd hd=>?_⟩
  rotate_left
  .obtain⟨i,hi,rfl⟩:=Ir.1 hd
   exact(hV i (List.mem_range.1 hi)).2
  obtain⟨b,off,spot⟩:=a;have hg:∀i,i<len->∀j u,(f (V i))[j]? =some u->w.cell? (((⟨b,off,spot⟩:bL).add (i*s)).add j)=some u:=λi hi=>(hV i hi).1;have zDF:spot=none:=by
   obtain⟨u,hu⟩:∃u,(f (V 0))[0]? =some u:=⟨_,lO (by rw[hf];exact hs)⟩;have h1:=hg 0 h0 0 u hu;rw[zcb] at h1;simpa[zg0] using aE.cell?_spot h1
  subst zDF;have hb:b<w.heap.size:=by
   obtain⟨u,hu⟩:∃u,(f (V 0))[0]? =some u:=⟨_,lO (by rw[hf];exact hs)⟩;have h1:=hg 0 h0 0 u hu;have:=zlW w _ h1;rw[add_plain,add_plain] at this;exact this
  refine⟨b,off,rfl,jY _,hb,hb,λj v hv=>?_⟩;obtain⟨i,k,rfl,hk⟩:∃i k,j=i*s+k/\k<s:=⟨j/s,j%s,by rw[Nat.mul_comm];exact(Nat.div_add_mod j s).symm,Nat.mod_lt _ hs⟩;rw[Hm f hf _ i k hk] at hv;obtain⟨x,Et,Af⟩:=Option.bind_eq_some_iff.1 hv;rw[List.getElem?_map] at Et;obtain⟨i',gT,rfl⟩:=Option.map_eq_some_iff.1 Et;have Ch:i<len:=by
   have:=(kE.1 gT).1;simpa using this
  have:i'=i:=by rw[List.getElem?_range Ch] at gT;injection gT with gT;exact gT.symm
  subst this;have:=hg i' Ch k v Af;rw[add_plain,add_plain] at this;rw[<-this,Wi]
def zyM {t e:aM}{f0 f1 f2:Field}{len cap:Nat}{d:DataW H}(ht:P.underlying t=some (.slice e))(hc:P.cellsOf e=3)(he:P.underlying e=some (.struct #[f0,f1,f2]))
 (o0:f0.offset=0) (o1:f1.offset=1) (o2:f2.offset=2) (h0:P.underlying f0.type=some .string) (h1:P.underlying f1.type=some (.int .i64)) (h2:P.underlying f2.type=some (.int .i64)) (c0:P.cellsOf f0.type=1) (c1:P.cellsOf f1.type=1) (c2:P.cellsOf f2.type=1)
 (h:zsx enc P w base (λ_=>true) held t (.slice A len cap) d p):∃ds:List dB,bX w 0 w.heap.size 3 A len cap (lL ds)/\∀d∈ds,d.k.size<=maxLen:=by
 letI:Inhabited dB:=⟨⟨⟨#[]⟩,0,0⟩⟩
 refine zzW dB.cells (λd=>d.k.size<=maxLen) aH (λ_=>rfl) ht hc ?_ h;intro n cs x hx hl;obtain⟨xs,m,_,_,_,hlen,hg⟩:=DataW.trod_struct he hx
 match cs,hl with
 |[x0,x1,x2],_=>
  match xs,hlen with
  |[y0,y1,y2],_=>
   have g0:=hg 0 f0 rfl;have g1:=hg 1 f1 rfl;have g2:=hg 2 f2 rfl;rw[o0,c0] at g0;rw[o1,c1] at g1;rw[o2,c2] at g2;obtain⟨s,e0,_,hs⟩:=DataW.trod_string h0 g0;obtain⟨a,e1,_,_⟩:=Xf h1 g1;obtain⟨b,e2,_,_⟩:=Xf h2 g2;simp at e0 e1 e2;subst e0 e1 e2;exact⟨⟨s,a,b⟩,rfl,hs⟩
end
end Go.Proofs.YtfcjiloojkjaeaaGreatDoor
namespace Go.Proofs.YtfcjiloojkjaeaaGreatDoor
open Go.ChangeShapes Go.WideShapes Go.ChangeAt Go.RowKit
section
variable {P:bS}{w:aE}{base:Nat}
def zG3 {t e:aM}{A:Option bL}{n c:Nat}{r:Reach}(ht:P.underlying t=some (.slice e))(h:zoc P w r base t (.slice A n c)):∀a,A=some a->a.spot=none/\∃cs T fz,w.heap[a.block]? =some (.cells cs T fz):=by
 intro a e;subst e;simp only[zoc,ht,Cell.okWide,Cell.ok,aE.has] at h;obtain⟨_,_,_,Il,row,cells,lK,_⟩:=h;refine⟨Il,?_⟩;unfold zbf at lK;split at lK
 .rename_i cs T fz hb
  exact⟨cs,T,fz,hb⟩
 .cases lK
end
end Go.Proofs.YtfcjiloojkjaeaaGreatDoor
namespace Go.Proofs.YtfcjiloojkjaeaaGreatDoor
open Go.RowKit
def txt (l:List UInt8):Value:=.string ⟨l.toArray⟩
def nG (ss:List (List UInt8)):List Value:=ss.map txt
variable {ss:List (List UInt8)}{k:Nat}
def zqD {l:List UInt8}(h:ss[k]? =some l):(nG ss)[k]? =some (.string ⟨l.toArray⟩):=by simp[nG,h,txt]
def zBH (ss:List (List UInt8)):(nG ss).length=ss.length:=by simp[nG]
variable {w:aE}{lo hi n c:Nat}{A:Option bL}
def bX.txtLen (h:bX w lo hi 1 A n c (nG ss)):ss.length=n:=by
 have:=h.len;rw[zBH] at this;omega
def bX.txtAt (h:bX w lo hi 1 A n c (nG ss))(hk:k<n):
 ∃b off l,A=some ⟨b,off,none⟩/\lo<=b/\b<hi/\b<w.heap.size/\ss[k]? =some l/\w.cell? ⟨b,off+k,none⟩=some (.string ⟨l.toArray⟩):=by
 obtain⟨b,off,e,h1,h2,h3,h4⟩:=h.at_ aC;have hl:k<ss.length:=by rw[h.txtLen];exact hk
 exact⟨b,off,ss[k],e,h1,h2,h3,lO hl,h4 k _ (zqD (lO hl))⟩
def zEw (lo hi n c xX gT n' c':Nat)(A A':Option bL)(xs ys:List (List UInt8))(w:aE)(h:bX w lo hi 1 A n c (nG xs))(h':bX w xX gT 1 A' n' c' (nG ys))(hn:n<=1048576)(sU:n'<=1048576):
 fH aK 15 #[.slice A n c,.slice A' n' c'] w (SaysB w (xs==ys)):=by
 have hl:=aD h.txtLen;have yQ:=aD h'.txtLen;by_cases aT:n=n'
 .subst aT
  go_enter zu0,zv3
  go_wp2
  go_loopw [5] (λi wr=>∃k:Nat,k<=n/\i=.int .i64 k/\(∃m,wr=w.drewN m)/\∀j,j<k->xs[j]? =ys[j]?) (λi _=>n-(intOf i).toNat)
  case atStart=>exact⟨0,jY _,rfl,⟨0,rfl⟩,λj hj=>absurd hj aC⟩
  case round=>
   obtain⟨k,hk,rfl,⟨m,rfl⟩,fW⟩:=hrel;have HC:=aD fW;clear fW;by_cases aN:k<n
   .obtain⟨b,off,v,rfl,_,_,h3,eK,hv⟩:=h.txtAt aN
    obtain⟨b',Nh,v',rfl,_,_,zeh,Bi,J6⟩:=h'.txtAt aN;have HX:=aD eK;have zco:=aD Bi;clear eK Bi h h';have i0:(0:Int)<=(k:Int):=aC;have i1:(k:Int)<(n:Int):=aC;obtain⟨t,ht⟩:=aU ((v==v'));have hb:(v==v')=t:=ht.symm;have HT:=aD ht;clear ht;cases t
    .go_wp2
     go_quiet (fail)
     go_wp2;go_ret;exact⟨E5 (by
      symm;rw[beq_eq_false_iff_ne];intro e;subst e;have:=HX.o.symm.trans zco.o;injection this with this;subst this;simpa using HT.o),_,by first|rfl|exact aE.drewN_drewN _ _ _⟩
    .go_wp2
     go_quiet (fail)
     go_wp2;go_roundw
     case rel=>exact⟨k+1,aC,n6,⟨_,rfl⟩,λj hj=>by
      by_cases e:j=k
      .subst e;rw[HX.o,zco.o,eq_of_beq HT.o.symm]
      .exact HC.o j aC⟩
     case measure=>simp[intOf];omega
   .have e:k=n:=aC
    subst e;clear h h';go_wp2;go_ret;exact⟨E5 (by
     symm;rw[beq_iff_eq];apply Uw;intro j;rcases mX j k with hj|hj
     .exact HC.o j hj
     .rw[Cu (by rw[hl.o];exact hj),Cu (by rw[yQ.o];exact hj)]),_,rfl⟩
 .have hq:((n:Int) !=(n':Int))=true:=by rw[bne_iff_ne];omega
  clear h h';have HN:=aD aT;clear aT
  go_enter zu0,zv3
  go_wp2;go_ret;exact⟨E5 zyn,0,rfl⟩
variable {W W':aE}{a0:bL}{v0:aF}
def zDD (hb:bR W.heap.size W W')(h:W.cell? a0=some v0/\bR w.heap.size w W):W'.cell? a0=some v0/\bR w.heap.size w W':=
 ⟨(Br (hb.block _ (zlW W _ h.1))).trans h.1,Qw h.2 hb⟩
def zAe (h:W.cell? a0=some v0/\bR w.heap.size w W):W.drew.cell? a0=some v0/\bR w.heap.size w W.drew:=
 ⟨h.1,⟨h.2.os,h.2.tape,h.2.output,h.2.size,h.2.block⟩⟩
def zkI (k:Nat):List UInt8:=109::(if k=0 then[48] else Iw k)
def zvp (k:Nat):To k=⟨(zkI k).toArray⟩:=rfl
def Le (k n:Nat):List (List UInt8):=(gN n).map λj=>zkI (k+j)
variable {j:Nat}
def zqP (h:j<n):(Le k n)[j]? =some (zkI (k+j)):=by simp[Le,h]
def zBt (lo hi n c:Nat)(A:Option bL)(xs:List aF)(k0:Nat)(w:aE)(h:rS 9 1 w lo hi A n c xs)(hn:n<=1048576)(gV:k0<=10000000):
 fH aK 18 #[.slice A n c,.int .i64 k0] w λe w'=>e=.returned (.int .i64 ((k0+n:Nat):Int))/\bX w' lo hi 1 A n c (nG (Le k0 n))/\pU lo hi w w':=by
 by_cases zaq:n=0
 .subst zaq
  have H:=aD h;clear h
  go_enter zs5,zt3
  go_wp2
  go_loopw [1,5] (λq i wr=>q=.int .i64 k0/\i=.int .i64 0/\wr=w) (λ_ _ _=>0)
  case atStart=>exact⟨rfl,rfl,rfl⟩
  case round=>
   obtain⟨rfl,rfl,rfl⟩:=hrel;go_wp2;go_ret;exact⟨rfl,⟨by simp[Le,nG],H.o.slc.le,H.o.slc.cap,λh=>absurd h aC⟩,pU.refl _ _ _⟩
 .obtain⟨b,xS,rfl,Gy,Ia⟩:=h.blk aC
  obtain⟨b',Nh,he,dQ,Ll,aN,_⟩:=h.slc.at_ aC;have zqT:=aD (And.intro h.slc.le h.slc.cap);simp only[fT,zl3,and_true] at he;obtain⟨rfl,rfl⟩:=he;clear h;have Nk:=aD Gy;have zml:=aD Ia;clear Gy Ia
  go_enter zs5,zt3
  go_wp2
  go_loopw [1,5] (λq i wr=>∃k:Nat,k<=n/\q=.int .i64 ((k0+k:Nat):Int)/\i=.int .i64 k/\pU lo hi w wr/\∃cs:Array aF,wr.heap[b]? =some (.cells cs 9)/\n*1<=cs.size/\∀j,j<k->cs[j]? =(nG (Le k0 n))[j]?) (λ_ i _=>n-(intOf i).toNat)
  case atStart=>exact⟨0,jY _,rfl,rfl,pU.refl _ _ _,xS,Nk.o,zml.o,λj hj=>absurd hj aC⟩
  case round=>
   obtain⟨k,hk,rfl,rfl,C,cs,hb,fW,Ss⟩:=hrel;have zvN:=aD Ss;clear Ss;by_cases ztn:k<n
   .have Ow:=aD fW
    clear fW
    go_wp2_with fail
    refine(zkw (k0+k) aC _).mono ?_;rintro e w1 ⟨rfl,b1⟩;obtain⟨qG,z1⟩:=eD b1 hb;have C1:=C.trans (pU.of_below b1);have e0:=aJ qG k;have hf:=eJ qG;rw[mK zl2] at e0;have pX:=aD qG;clear qG b1 hb C;obtain⟨q,hq⟩:=aU (k0+k);rw[<-hq];have zre:q<=20000000:=aC;have HQ:=aD hq;clear hq;go_wp2;go_roundw
    case rel=>exact⟨k+1,aC,by rw[show k0+(k+1)=q+1 by have:=HQ.o;omega];go_num,n6,C1.setCell dQ Ll _,cs.setIfInBounds k (.string (To q)),nJ pX.o _,by simp;have:=Ow.o;omega,λj hj=>by
     by_cases e:j=k
     .subst e
      rw[Kd zl2,zqD (zqP ztn),zvp,HQ.o]
     .rw[jQ aC];exact zvN.o j aC⟩
    case measure=>simp[intOf];omega
   .have e:k=n:=aC
    subst e;have HB:=aD hb;have hz:=fY hb;clear hb;go_wp2;go_ret;exact⟨rfl,⟨by simp[nG,Le],zqT.o.1,zqT.o.2,λh0=>⟨b,0,rfl,dQ,Ll,hz,λj v hv=>by
     have hj:j<k:=by
      rcases mX j k with h|h
      .exact h
      .rw[Cu (by simp[nG,Le];exact h)] at hv;cases hv
     rw[qZ,aJ HB.o,zvN.o j hj,hv]⟩⟩,C⟩
def zCh (lo hi n c:Nat)(A:Option bL)(k0:Nat)(w:aE)(h:bX w lo hi 1 A n c (nG (Le k0 n)))(hn:n<=1048576)(gV:k0<=10000000):
 fH aK 19 #[.slice A n c,.int .i64 k0] w λe w'=>e=.returned (.int .i64 ((k0+n:Nat):Int))/\bR w.heap.size w w':=by
 go_enter Tryz.func19,Tryz.ntmps19
 go_wp2
 go_loopw [1,5] (λq i wr=>∃k:Nat,k<=n/\q=.int .i64 ((k0+k:Nat):Int)/\i=.int .i64 k/\bR w.heap.size w wr) (λ_ i _=>n-(intOf i).toNat)
 case atStart=>exact⟨0,jY _,aQ,rfl,eF _ _⟩
 case round=>
  obtain⟨k,hk,rfl,rfl,B⟩:=hrel;by_cases aN:k<n
  .obtain⟨b,off,v,hA,_,_,h3,eK,hv⟩:=(h.below B).txtAt aN
   subst hA;rw[zqP aN] at eK;injection eK with eK;subst eK;have i0:(0:Int)<=(k:Int):=aC;have i1:(k:Int)<(n:Int):=aC;clear h;obtain⟨q,hq⟩:=aU (k0+k);rw[<-hq] at hv⊢;have zre:q<=20000000:=aC;have HQ:=aD hq;clear hq;rw[<-zvp] at hv;have S0:=And.intro hv B
   go_wp2_with fail
   go_region_held3 (λW=>W.cell? ⟨b,off+k,none⟩=some (.string (To q))/\bR w.heap.size w W)
    (first|exact zAe S0|exact zDD Qr Qr)
    (first|(go_at_call 44;refine(zkw q aC _).mono ?_;rintro x w2 ⟨rfl,b2⟩))
   have S2:bR w.heap.size w w2:=by
    have S1:w2.cell? ⟨b,off+k,none⟩=some (.string (To q))/\bR w.heap.size w w2:=by assumption
    exact S1.2
   go_wp2;go_roundw
   case rel=>exact⟨k+1,aC,by rw[show k0+(k+1)=q+1 by have:=HQ.o;omega];go_num,n6,S2⟩
   case measure=>simp[intOf];omega
  .have e:k=n:=aC
   subst e;go_wp2;go_ret;exact⟨rfl,B⟩
variable {ds:List bJ}
def bX.callsLen (h:bX w lo hi 2 A n c (bF ds)):ds.length=n:=by
 have h1:=h.len;have h2:=Fb bJ.cells (s:=2) (λ_=>rfl) ds;unfold bF at h1;omega
def bX.callsAt (h:bX w lo hi 2 A n c (bF ds))(hk:k<n):
 ∃b off d,A=some ⟨b,off,none⟩/\lo<=b/\b<hi/\b<w.heap.size/\ds[k]? =some d/\w.cell? ⟨b,off+k*2,none⟩=some (.int .i64 d.c)/\w.cell? ⟨b,off+k*2+1,none⟩=some (.int .i64 d.p):=by
 have hl:=h.callsLen;have hx:ds[k]? =some ds[k]:=lO aC;have g:∀i,i<2->(bF ds)[k*2+i]? =(ds[k].cells)[i]? :=λi hi=>by
  have:=Hm bJ.cells (s:=2) (λ_=>rfl) ds k i hi;rw[hx] at this;exact this
 obtain⟨b,off,rfl,h1,h2,h3,h4⟩:=h.cells hk;exact⟨b,off,ds[k],rfl,h1,h2,h3,hx,h4 0 _ (g 0 aH),by rw[Wi];exact h4 1 _ (g 1 aH)⟩
variable {W0:aE}{a1 a2:bL}{v1 v2:aF}
def rF (h:W.cell? a1=some v1/\W.cell? a2=some v2/\bR W0.heap.size W0 W):bR W0.heap.size W0 W:=h.2.2
def zr2 (z1:a1.block<W0.heap.size)(z2:a2.block<W0.heap.size)(h1:W0.cell? a1=some v1)(h2:W0.cell? a2=some v2)(hb:bR W0.heap.size W0 W'):W'.cell? a1=some v1/\W'.cell? a2=some v2/\bR W0.heap.size W0 W':=
 ⟨(Br (hb.block _ z1)).trans h1,(Br (hb.block _ z2)).trans h2,hb⟩
section
variable {P:bS}(w:aE)
def zCQ (t ty:aM)(base:Nat)(e:aM)(i:wW)(z:aF)(size bytes:Nat)(ht:P.underlying t=some (.slice e))(hi:P.info? e=some i)(hz:i.zero=some z)
 (xH:i.size=size) (uM:i.bytes=bytes) (hzs:z.cells.size=size) (cJ:0<size)
 (g0 n c0:Nat) (xs:List aF) (cV:w.ownsRow base e size (.slice (some ⟨g0,0,none⟩) n c0) n xs)
 (A:Option bL) (m c lo gT:Nat) (news:List aF) (hs:bX w lo gT size A m c news) (h1:∀u∈news,u.oneCell'=true)
 (wN:n+m<=maxLen) (wO:(n+m)*bytes<=140737488355328) (sC:base<=w.heap.size):
 ∃g cap w',(xF #[t,t] ty #[.slice (some ⟨g0,0,none⟩) n c0,.slice A m c]).run P w=.ok (.slice (some ⟨g,0,none⟩) (n+m) cap) w'/\
  w'.ownsRow base e size (.slice (some ⟨g,0,none⟩) (n+m) cap) (n+m) (xs++news)/\w.grownBy w' (Lr (.slice (some ⟨g0,0,none⟩) n c0))/\bR base w w':=by
 cases A with
 |none=>
  have hm:m=0:=by
   rcases Nat.eq_zero_or_pos m with h|h
   .exact h
   .obtain⟨b,off,e,_⟩:=hs.at_ h;cases e
  subst hm;have oS:news=[]:=by have:=hs.len;simp at this;exact this
  subst oS;have hle:n<=c0:=by
   obtain⟨_,h|⟨b,cap,cur,e,h1,h2,h3,_⟩⟩:=cV
   .cases h.1
   .injection e with _ _ e;omega
  have hr:=run_append_room_src (P:=P) w t t ty e i ht hi g0 0 n c0 (.slice none 0 c) 0 [] (Src.ofNil (P:=P) (e':=e) w ht c) aC (by intro j hj;simp at hj) (by intro j hj;simp at hj);refine⟨g0,c0,w,by simpa[aE.setCells] using hr,by simpa using cV,⟨rfl,rfl,rfl,aX _,λ_ _ _=>rfl⟩,eF _ _⟩
 |some ad=>
  by_cases hm:0<m
  .obtain⟨b,off,e',_,_,_,h4⟩:=hs.at_ hm
   injection e' with e';subst e';exact zm2 w t ty base e i z size bytes ht hi hz xH uM hzs cJ _ n xs cV aQ _ m c news hs.len (λj u hu=>by rw[bL.add_lit];exact h4 j u hu) h1 wN wO sC
  .obtain rfl:m=0:=aC
   have oS:news=[]:=by have:=hs.len;simp at this;exact this
   subst oS;exact zm2 w t ty base e i z size bytes ht hi hz xH uM hzs cJ _ n xs cV aQ _ 0 c [] aQ (λj u hu=>by simp at hu) (λu hu=>by cases hu) wN wO sC
variable {o:aZ}{a:Act}
def zFX {K:Act->aE->Prop}{Q:Exit->Act->aE->Prop}(s x:cN)(t:aM)
 (ho:o.op=.call {callee:=.builtin .append,args:=#[s,x],argTypes:=#[t,t]})
 (base:Nat) (e:aM) (i:wW) (z:aF) (size bytes:Nat) (ht:P.underlying t=some (.slice e)) (hi:P.info? e=some i) (hz:i.zero=some z)
 (xH:i.size=size) (uM:i.bytes=bytes) (hzs:z.cells.size=size) (cJ:0<size)
 (g0 n c0:Nat) (xs:List aF) (zlh:a.eval s=.slice (some ⟨g0,0,none⟩) n c0) (cV:w.ownsRow base e size (.slice (some ⟨g0,0,none⟩) n c0) n xs)
 (A:Option bL) (m c lo gT:Nat) (news:List aF) (hx:a.eval x=.slice A m c) (hs:bX w lo gT size A m c news) (h1:∀u∈news,u.oneCell'=true)
 (wN:n+m<=maxLen) (wO:(n+m)*bytes<=140737488355328) (sC:base<=w.heap.size)
 (h:∀g cap w',w'.ownsRow base e size (.slice (some ⟨g,0,none⟩) (n+m) cap) (n+m) (xs++news)->w.grownBy w' (Lr (.slice (some ⟨g0,0,none⟩) n c0))->bR base w w'->K (a.put o.dst (.slice (some ⟨g,0,none⟩) (n+m) cap)) w'):o.wp P a w K Q:=by
 obtain⟨g,cap,w',hr,h2,h3,h4⟩:=zCQ (P:=P) w t o.type base e i z size bytes ht hi hz xH uM hzs cJ g0 n c0 xs cV A m c lo gT news hs h1 wN wO sC;unfold By execOp;simp only[ho,resolve,invoke,builtin,E6,Ht,D7,uS,fK,tL,zlh,hx,hr];exact h g cap w' h2 h3 h4
def zeF {ops:Array aZ}{K:Act->aE->Prop}{Q:Exit->Act->aE->Prop}{EE:Prop}(hw:dD o (dR ops a.tmps)=true)(s x:cN)(t:aM)
 (ho:o.op=.call {callee:=.builtin .append,args:=#[s,x],argTypes:=#[t,t]})
 (base:Nat) (e:aM) (i:wW) (z:aF) (size bytes:Nat) (ht:P.underlying t=some (.slice e)) (hi:P.info? e=some i) (hz:i.zero=some z)
 (xH:i.size=size) (uM:i.bytes=bytes) (hzs:z.cells.size=size) (cJ:0<size)
 (g0 n c0:Nat) (xs:List aF) (zlh:a.eval s=.slice (some ⟨g0,0,none⟩) n c0) (cV:w.ownsRow base e size (.slice (some ⟨g0,0,none⟩) n c0) n xs)
 (A:Option bL) (m c lo gT:Nat) (news:List aF) (hx:a.eval x=.slice A m c) (hs:bX w lo gT size A m c news) (h1:∀u∈news,u.oneCell'=true)
 (wN:n+m<=maxLen) (wO:(n+m)*bytes<=140737488355328) (sC:base<=w.heap.size)
 (h:∀g cap w',w'.ownsRow base e size (.slice (some ⟨g,0,none⟩) (n+m) cap) (n+m) (xs++news)->w.grownBy w' (Lr (.slice (some ⟨g0,0,none⟩) n c0))->bR base w w'->K (a.put o.dst (.slice (some ⟨g,0,none⟩) (n+m) cap)) w'):
 if dD o (dR ops a.tmps)=true then By P o a w K Q else EE:=by
 rw[if_pos hw];exact zFX w s x t ho base e i z size bytes ht hi hz xH uM hzs cJ g0 n c0 xs zlh cV A m c lo gT news hx hs h1 wN wO sC h
end
variable {α:Type}
def Z4 {p:α->Bool}:∀{l:List α} {k:Nat} {a:α},l[k]? =some a->p a=true->(∀j,j<k->∀b,l[j]? =some b->p b=false)->l.findIdx? p=some k
 |[],k,a,h,_,_=>by simp at h
 |x::xs,0,a,h,ha,_=>by
  simp at h;subst h;rw[zwt,if_pos ha]
 |x::xs,k+1,a,h,ha,hn=>by
  have hx:=hn 0 aC x rfl;rw[zwt,hx,Z4 (l:=xs) (k:=k) zgL ha (λj hj b hb=>hn (j+1) aC b zg2)];simp
def zmh {p:α->Bool}{l:List α}(hn:∀j,j<k->∀b,l[j]? =some b->p b=false)(hk:l.length<=k):l.findIdx? p=none:=by
 rw[List.findIdx?_eq_none_iff];intro x hx;obtain⟨j,hj,e⟩:=Kj.1 hx;exact hn j aC x (by rw[lO hj,e])
def zvJ {p:α->Bool}:∀{l:List α} {k:Nat} {a:α},l[k]? =some a->p a=true->(∀j,j<k->∀b,l[j]? =some b->p b=false)->l.find? p=some a
 |[],k,a,h,_,_=>by simp at h
 |x::xs,0,a,h,ha,_=>by
  simp at h;subst h;rw[zuL,ha]
 |x::xs,k+1,a,h,ha,hn=>by
  have hx:=hn 0 aC x rfl;rw[zuL,hx];exact zvJ (l:=xs) (k:=k) zgL ha (λj hj b hb=>hn (j+1) aC b zg2)
def zJC {p:α->Bool}{l:List α}(hn:∀j,j<k->∀b,l[j]? =some b->p b=false)(hk:l.length<=k):l.find? p=none:=by
 rw[List.find?_eq_none];intro x hx;obtain⟨j,hj,e⟩:=Kj.1 hx;rw[hn j aC x (by rw[lO hj,e])];simp
def U2 {p:α->Bool}{l:List α}{a:α}(h:∀j,j<k->∀b,l[j]? =some b->p b=false)(hk:l[k]? =some a)(ha:p a=false):∀j,j<k+1->∀b,l[j]? =some b->p b=false:=by
 intro j hj b hb;by_cases e:j=k
 .subst e;rw[hk] at hb;injection hb with hb;exact hb▸ha
 .exact h j aC b hb
def Kq (lo hi n c:Nat)(A:Option bL)(rs:List bT)(q:Int)(w:aE)(h:bX w lo hi 7 A n c (recs rs))(hn:n<=1048576):
 fH aK 91 #[.slice A n c,.int .i64 q] w λe w'=>e=.returned (.int .i64 (F0 (jJ rs q)))/\w'=w:=by
 have hl:=aD h.recLen
 go_enter Tryz.func91,Tryz.ntmps91
 go_wp2
 go_loop [5] (λi=>∃k:Nat,k<=n/\i=.int .i64 k/\∀j,j<k->∀b,rs[j]? =some b->Ao q b=false) (λi=>n-(intOf i).toNat)
 case atStart=>exact⟨0,jY _,rfl,λj hj=>absurd hj aC⟩
 case round=>
  obtain⟨k,hk,rfl,fW⟩:=hrel;have HC:=aD fW;by_cases aN:k<n
  .obtain⟨b,off,d,hA,_,_,h3,eK,fJ,pP,xG,Lc,Ka,nN,zem⟩:=h.rec7 aN
   subst hA;have HX:=aD eK;have i0:(0:Int)<=(k:Int):=aC;have i1:(k:Int)<(n:Int):=aC;cases hq:(d.c==q)
   .have HP:=aD (show Ao q d=false by unfold Ao;rw[hq];rfl)
    go_wp2
    go_round
    case rel=>exact⟨k+1,aC,n6,U2 HC.o HX.o HP.o⟩
    case measure=>simp[intOf];omega
   .cases hd:(d.e.toList==[111,112,101,110])
    .have HP:=aD (show Ao q d=false by unfold Ao eI;rw[hq,hd];rfl)
     go_wp2
     go_round
     case rel=>exact⟨k+1,aC,n6,U2 HC.o HX.o HP.o⟩
     case measure=>simp[intOf];omega
    .have HP:=aD (show Ao q d=true by unfold Ao eI;rw[hq,hd];rfl)
     go_wp2;go_ret;exact⟨Bu (by unfold jJ;rw[Z4 HX.o HP.o HC.o];rfl),rfl⟩
  .have e:k=n:=aC
   subst e;go_wp2;go_ret;exact⟨Bu (by unfold jJ;rw[zmh HC.o zeX];rfl),rfl⟩
def S7 (lo hi n c:Nat)(A:Option bL)(rs:List bT)(q:Int)(w:aE)(h:bX w lo hi 7 A n c (recs rs))(hn:n<=1048576):
 fH aK 45 #[.slice A n c,.int .i64 q] w λe w'=>e=.returned (.int .i64 (dK rs q))/\w'=w:=by
 have hl:=aD h.recLen
 go_enter Tryz.func45,Tryz.ntmps45
 go_wp2
 go_loop [5] (λi=>∃k:Nat,k<=n/\i=.int .i64 k/\∀j,j<k->∀b,rs[j]? =some b->wA q b=false) (λi=>n-(intOf i).toNat)
 case atStart=>exact⟨0,jY _,rfl,λj hj=>absurd hj aC⟩
 case round=>
  obtain⟨k,hk,rfl,fW⟩:=hrel;have HC:=aD fW;by_cases aN:k<n
  .obtain⟨b,off,d,hA,_,_,h3,eK,fJ,pP,xG,Lc,Ka,nN,zem⟩:=h.rec7 aN
   subst hA;have HX:=aD eK;have i0:(0:Int)<=(k:Int):=aC;have i1:(k:Int)<(n:Int):=aC;cases hq:(d.o==q)
   .have HP:=aD (show wA q d=false by unfold wA;rw[hq];rfl)
    go_wp2
    go_round
    case rel=>exact⟨k+1,aC,n6,U2 HC.o HX.o HP.o⟩
    case measure=>simp[intOf];omega
   .cases hd:(d.e.toList==[111,112,101,110])
    .have HP:=aD (show wA q d=false by unfold wA eI;rw[hq,hd];rfl)
     go_wp2
     go_round
     case rel=>exact⟨k+1,aC,n6,U2 HC.o HX.o HP.o⟩
     case measure=>simp[intOf];omega
    .have HP:=aD (show wA q d=true by unfold wA eI;rw[hq,hd];rfl)
     go_wp2;go_ret;exact⟨Bu (by unfold dK;rw[zvJ HX.o HP.o HC.o]),rfl⟩
  .have e:k=n:=aC
   subst e;go_wp2;go_ret;exact⟨Bu (by unfold dK;rw[zJC HC.o zeX]),rfl⟩
def zar (lo hi n c:Nat)(A:Option bL)(xs:List bJ)(q:Int)(w:aE)(h:bX w lo hi 2 A n c (bF xs))(hn:n<=1048576):
 fH aK 92 #[.slice A n c,.int .i64 q] w λe w'=>e=.returned (.int .i64 (F0 (vD xs q)))/\w'=w:=by
 have hl:=aD h.callsLen
 go_enter Tryz.func92,Tryz.ntmps92
 go_wp2
 go_loop [5] (λi=>∃k:Nat,k<=n/\i=.int .i64 k/\∀j,j<k->∀b,xs[j]? =some b->(b.c==q)=false) (λi=>n-(intOf i).toNat)
 case atStart=>exact⟨0,jY _,rfl,λj hj=>absurd hj aC⟩
 case round=>
  obtain⟨k,hk,rfl,fW⟩:=hrel;have HC:=aD fW;by_cases aN:k<n
  .obtain⟨b,off,d,hA,_,_,h3,eK,fJ,pP⟩:=h.callsAt aN
   subst hA;have HX:=aD eK;have i0:(0:Int)<=(k:Int):=aC;have i1:(k:Int)<(n:Int):=aC;cases hq:(d.c==q)
   .have HP:=aD hq
    go_wp2
    go_round
    case rel=>exact⟨k+1,aC,n6,U2 HC.o HX.o HP.o⟩
    case measure=>simp[intOf];omega
   .have HP:=aD hq
    go_wp2;go_ret;exact⟨Bu (by unfold vD;rw[Z4 HX.o HP.o HC.o];rfl),rfl⟩
  .have e:k=n:=aC
   subst e;go_wp2;go_ret;exact⟨Bu zri,rfl⟩
def znK (E s:Nat)(w:aE)(m:Nat)(xs:List aF)(v:aF)(w':aE):Prop:=∃g cp,v=.slice (some ⟨g,0,none⟩) m cp/\w'.ownsRow w.heap.size E s (.slice (some ⟨g,0,none⟩) m cp) m xs/\bR w.heap.size w w'
def zxJ (bs:List bJ)(b:bJ):bF (bs++[b])=bF bs++b.cells:=by simp[bF]
def zga:(aK.info? 100).map (λi=>(i.zero,i.size,i.bytes))=some (some (.agg #[.int .i64 0,.int .i64 0]),2,16):=aP
def zGI {xs:List bJ}{d:bJ}(q:Int)(h:xs[k]? =some d):dY (xs.take (k+1)) q=dY (xs.take k) q++(if d.c !=q then[d] else[]):=by
 unfold dY;rw[Nb,h,P4];congr 1;simp[zn8]
def zg8 (lo hi n c:Nat)(A:Option bL)(xs:List bJ)(q:Int)(w:aE)(h:bX w lo hi 2 A n c (bF xs))(hn:n<=100000):
 fH aK 95 #[.slice A n c,.int .i64 q] w λe w'=>∃v,e=.returned v/\znK 100 2 w (dY xs q).length (bF (dY xs q)) v w':=by
 have hl:=aD h.callsLen;obtain⟨i0,fR,jN,eL,lH⟩:=zI zga;have HI:=aD (And.intro fR (And.intro jN (And.intro eL lH)));clear fR jN eL lH
 go_enter Tryz.func95,Tryz.ntmps95
 go_wp2
 go_loopw [5,6] (λv i wr=>∃(k g L cl:Nat),k<=n/\i=.int .i64 k/\L=(dY (xs.take k) q).length/\v=.slice (some ⟨g,0,none⟩) L cl/\bR w.heap.size w wr/\wr.ownsRow w.heap.size 100 2 (.slice (some ⟨g,0,none⟩) L cl) L (bF (dY (xs.take k) q))) (λ_ i _=>n-(intOf i).toNat)
 case atStart=>exact⟨0,w.heap.size,0,0,jY _,rfl,rfl,rfl,dS (eF _ _) _,Pd (aX _) (lQ _ _)⟩
 case round=>
  obtain⟨k,g,L,cl,hk,rfl,hL,rfl,B,cV⟩:=hrel;have HL:=aD hL;have Rv:=aD cV;have HB:=aD B;have zoS:=B.size;have hlen:L<=k:=by rw[hL];unfold dY;exact eG (zc2 _ _) r9
  clear hL cV;by_cases aN:k<n
  .obtain⟨b,off,d,hA,_,_,h3,eK,fJ,pP⟩:=(h.below B).callsAt aN
   subst hA;have HF:=aD (zGI q eK);clear eK h h3 B;have zFw:(0:Int)<=(k:Int):=aC;have i1:(k:Int)<(n:Int):=aC;cases hq:(d.c !=q)
   .rw[hq] at HF
    have HN:=aD (show dY (xs.take (k+1)) q=dY (xs.take k) q by rw[HF.o];simp);go_wp2;go_roundw
    case rel=>exact⟨k+1,g,L,cl,aC,n6,by rw[HN.o];exact HL.o,rfl,HB.o,by rw[HN.o];exact Rv.o⟩
    case measure=>simp[intOf];omega
   .rw[hq] at HF
    have HN:=aD (show dY (xs.take (k+1)) q=dY (xs.take k) q++[d] by rw[HF.o];simp);obtain⟨fR,jN,eL,lH⟩:=HI.o;have HH:=aD fR;clear fR
    go_wp2_with (at_builtin;refine zvv _ rfl (.tmp 21) (.tmp 26) 57 rfl w.heap.size 100 i0 (.agg #[.int .i64 0,.int .i64 0]) 2 16 Ln HH.o jN eL lH rfl aH (.slice (some ⟨g,0,none⟩) L cl) L (bF (dY (xs.take k) q)) rfl (Aj Rv.o ?c1) aQ ⟨_,0,none⟩ 1 1 (bJ.cells d) rfl rfl ?c2 Q7 ?c5 ?c6 ?c7 ?_;(case c1=>exact λb hb=>uB _ _ b hb);(case c2=>exact E0 (cs:=(bJ.cells d).toArray) (mV _ _ aQ));(case c5=>unfold maxLen;omega);(case c6=>omega);(case c7=>(simp;omega));intro g1 c1 w1 sH rN B1;have Cv:=aD sH;have pX:=aD B1;clear sH rN B1)
    go_roundw
    case rel=>
     refine⟨k+1,g1,L+1,c1,aC,n6,by rw[HN.o,HL.o];simp,rfl,(dS HB.o _).trans pX.o,?_⟩;rw[HN.o,zxJ];exact Cv.o
    case measure=>simp[intOf];omega
  .have e:k=n:=aC
   subst e;have HT:=aD (show xs.take k=xs by rw[zP zeX]);clear h B;go_wp2;go_ret;refine⟨_,rfl,g,cl,by rw[HL.o,HT.o];rfl,?_,HB.o⟩;have:=Rv.o;rw[HL.o,HT.o] at this;exact this
section
variable {P:bS}(w:aE)
def zhk (t ty:aM)(base:Nat)(e:aM)(i:wW)(z:aF)(size bytes:Nat)(ht:P.underlying t=some (.slice e))(hi:P.info? e=some i)(hz:i.zero=some z)
 (xH:i.size=size) (uM:i.bytes=bytes) (hzs:z.cells.size=size) (cJ:0<size)
 (gv cv n:Nat) (xs:List aF) (cV:w.ownsRow base e size (.slice (some ⟨gv,0,none⟩) n cv) n xs)
 (ad:bL) (m c:Nat) (news:List aF) (hl:news.length=m*size) (Ew:∀j u,news[j]? =some u->w.cell? (ad.add j)=some u) (h1:∀u∈news,u.oneCell'=true)
 (wN:n+m<=maxLen) (wO:(n+m)*bytes<=140737488355328) (sC:base<=w.heap.size):
 ∃g cap w',(xF #[t,t] ty #[.slice (some ⟨gv,0,none⟩) n cv,.slice (some ad) m c]).run P w=.ok (.slice (some ⟨g,0,none⟩) (n+m) cap) w'/\
  w'.ownsRow base e size (.slice (some ⟨g,0,none⟩) (n+m) cap) (n+m) (xs++news)/\w.grownBy w' (some gv)/\bR base w w'/\(g=gv\/g=w.heap.size):=by
 obtain⟨v',w',hr,h2,h3,h4,h5⟩:=ztT (P:=P) w base t ty e i z size bytes ht hi hz xH uM hzs cJ _ n xs cV ad m c news hl Ew h1 wN wO sC;obtain⟨g,cap,rfl⟩:=zjQ h2 (λh=>by have:=(h4.1 h).1;cases this);refine⟨g,cap,w',hr,h2,h3,zvS cV h3 sC,?_⟩;rcases h5 with h5|h5
 .exact .inl (by simpa[Lr] using h5)
 .exact .inr (by simpa[Lr] using h5)
variable {o:aZ}{a:Act}
def zF4 {K:Act->aE->Prop}{Q:Exit->Act->aE->Prop}(s x:cN)(t:aM)
 (ho:o.op=.call {callee:=.builtin .append,args:=#[s,x],argTypes:=#[t,t]})
 (base:Nat) (e:aM) (i:wW) (z:aF) (size bytes:Nat) (ht:P.underlying t=some (.slice e)) (hi:P.info? e=some i) (hz:i.zero=some z)
 (xH:i.size=size) (uM:i.bytes=bytes) (hzs:z.cells.size=size) (cJ:0<size)
 (gv cv n:Nat) (xs:List aF) (hs:a.eval s=.slice (some ⟨gv,0,none⟩) n cv) (cV:w.ownsRow base e size (.slice (some ⟨gv,0,none⟩) n cv) n xs)
 (ad:bL) (m c:Nat) (news:List aF) (hx:a.eval x=.slice (some ad) m c) (hl:news.length=m*size) (Ew:∀j u,news[j]? =some u->w.cell? (ad.add j)=some u) (h1:∀u∈news,u.oneCell'=true)
 (wN:n+m<=maxLen) (wO:(n+m)*bytes<=140737488355328) (sC:base<=w.heap.size)
 (h:∀g cap w',w'.ownsRow base e size (.slice (some ⟨g,0,none⟩) (n+m) cap) (n+m) (xs++news)->w.grownBy w' (some gv)->bR base w w'->(g=gv\/g=w.heap.size)->K (a.put o.dst (.slice (some ⟨g,0,none⟩) (n+m) cap)) w'):o.wp P a w K Q:=by
 obtain⟨g,cap,w',hr,h2,h3,h4,h5⟩:=zhk (P:=P) w t o.type base e i z size bytes ht hi hz xH uM hzs cJ gv cv n xs cV ad m c news hl Ew h1 wN wO sC;unfold By execOp;simp only[ho,resolve,invoke,builtin,E6,Ht,D7,uS,fK,tL,hs,hx,hr];exact h g cap w' h2 h3 h4 h5
def zjH {ops:Array aZ}{rest:List aZ}{Q:Exit->Act->aE->Prop}(Fl:o.guard=none)(s x:cN)(t:aM)
 (ho:o.op=.call {callee:=.builtin .append,args:=#[s,x],argTypes:=#[t,t]})
 (base:Nat) (e:aM) (i:wW) (z:aF) (size bytes:Nat) (ht:P.underlying t=some (.slice e)) (hi:P.info? e=some i) (hz:i.zero=some z)
 (xH:i.size=size) (uM:i.bytes=bytes) (hzs:z.cells.size=size) (cJ:0<size)
 (gv cv n:Nat) (xs:List aF) (hs:a.eval s=.slice (some ⟨gv,0,none⟩) n cv) (cV:w.ownsRow base e size (.slice (some ⟨gv,0,none⟩) n cv) n xs)
 (ad:bL) (m c:Nat) (news:List aF) (hx:a.eval x=.slice (some ad) m c) (hl:news.length=m*size) (Ew:∀j u,news[j]? =some u->w.cell? (ad.add j)=some u) (h1:∀u∈news,u.oneCell'=true)
 (wN:n+m<=maxLen) (wO:(n+m)*bytes<=140737488355328) (sC:base<=w.heap.size)
 (h:∀g cap w',w'.ownsRow base e size (.slice (some ⟨g,0,none⟩) (n+m) cap) (n+m) (xs++news)->w.grownBy w' (some gv)->bR base w w'->(g=gv\/g=w.heap.size)->wpList P ops Q rest (a.put o.dst (.slice (some ⟨g,0,none⟩) (n+m) cap)) w'):wpList P ops Q (o::rest) a w:=
 wpList_plain Fl λ_ hK=>zF4 w s x t ho base e i z size bytes ht hi hz xH uM hzs cJ gv cv n xs hs cV ad m c news hx hl Ew h1 wN wO sC λg cap w' h2 h3 h4 h5=>hK _ _ (h g cap w' h2 h3 h4 h5)
end
structure fM where
 gR:Nat
 cR:Nat
 gW:Nat
 cW:Nat
 gB:Nat
 cB:Nat
 gL:Nat
 cL:Nat
abbrev fM.sR (v:fM)(r:b7):Value:=.slice (some ⟨v.gR,0,none⟩) r.recs.length v.cR
abbrev fM.sW (v:fM)(r:b7):Value:=.slice (some ⟨v.gW,0,none⟩) r.wait.length v.cW
abbrev fM.sB (v:fM)(r:b7):Value:=.slice (some ⟨v.gB,0,none⟩) r.back.length v.cB
abbrev fM.sL (v:fM)(r:b7):Value:=.slice (some ⟨v.gL,0,none⟩) r.log.length v.cL
abbrev fS (v:fM)(r:b7):Array Value:=#[.int .i64 r.o.ln,.int .i64 r.o.op,.int .i64 r.o.pt,.int .i64 r.clk,v.sR r,v.sW r,v.sB r,v.sL r]
abbrev G4 (v:fM)(r:b7):Obj:=.cells (fS v r) 59
structure eA (w:aE)(lo:Nat)(v:fM)(r:b7):Prop where
 rc:w.ownsRow lo 50 7 (v.sR r) r.recs.length (recs r.recs)
 wt:w.ownsRow lo 100 2 (v.sW r) r.wait.length (bF r.wait)
 bk:w.ownsRow lo 100 2 (v.sB r) r.back.length (bF r.back)
 lg:w.ownsRow lo 9 1 (v.sL r) r.log.length (nG r.log)
 ap:v.gR≠v.gW/\v.gR≠v.gB/\v.gR≠v.gL/\v.gW≠v.gB/\v.gW≠v.gL/\v.gB≠v.gL
structure oK (v:fM)(w w':aE):Prop where
 os:w'.os=w.os
 tape:w'.tape=w.tape
 output:w'.output=w.output
 size:w.heap.size<=w'.heap.size
 block:∀b,b<w.heap.size->b≠v.gR->b≠v.gB->w'.heap[b]? =w.heap[b]?
structure wS (n:Nat)(v v':fM):Prop where
 r:v'.gR=v.gR\/n<=v'.gR
 w:v'.gW=v.gW\/n<=v'.gW
 b:v'.gB=v.gB\/n<=v'.gB
 l:v'.gL=v.gL
section
variable {w w' D6:aE}{lo:Nat}{v v' zam:fM}{r:b7}
def oK.of_below (v:fM)(h:bR w.heap.size w w'):oK v w w':=⟨h.os,h.tape,h.output,h.size,λb hb _ _=>h.block b hb⟩
def oK.trans {n:Nat}(h:oK v w w')(k:oK v' w' D6)(m:wS n v v')(hn:w.heap.size<=n):oK v w D6:=
 ⟨k.os.trans h.os,k.tape.trans h.tape,k.output.trans h.output,eG h.size k.size,λb hb h1 h2=>(k.block b (lC hb h.size) (λe=>by rcases m.r with x|x<;>omega) (λe=>by rcases m.b with x|x<;>omega)).trans (h.block b hb h1 h2)⟩
def oK.same (h:oK v w w')(k:oK v w' D6):oK v w D6:=
 ⟨k.os.trans h.os,k.tape.trans h.tape,k.output.trans h.output,eG h.size k.size,λb hb h1 h2=>(k.block b (lC hb h.size) h1 h2).trans (h.block b hb h1 h2)⟩
def wS.refl (n:Nat)(v:fM):wS n v v:=⟨.inl rfl,.inl rfl,.inl rfl,rfl⟩
def wS.trans {n m:Nat}(h:wS n v v')(k:wS m v' zam)(hm:n<=m):wS n v zam:=
 ⟨
  k.r.elim (λe=>h.r.imp (λx=>e.trans x) (λx=>by omega)) (λx=>.inr aC),k.w.elim (λe=>h.w.imp (λx=>e.trans x) (λx=>by omega)) (λx=>.inr aC),
  k.b.elim (λe=>h.b.imp (λx=>e.trans x) (λx=>by omega)) (λx=>.inr aC),k.l.trans h.l⟩
def eA.keep (h:eA w lo v r)(k:∀b,b<w.heap.size->w'.heap[b]? =w.heap[b]?):eA w' lo v r:=⟨Aj h.rc k,Aj h.wt k,Aj h.bk k,Aj h.lg k,h.ap⟩
def eA.below (h:eA w lo v r)(k:bR w.heap.size w w'):eA w' lo v r:=h.keep λb hb=>k.block b hb
def eA.alloc (h:eA w lo v r)(o:tM):eA (w.alloc o) lo v r:=h.keep λb hb=>uB w o b hb
def eA.lts (h:eA w lo v r):lo<=v.gR/\v.gR<w.heap.size/\lo<=v.gW/\v.gW<w.heap.size/\lo<=v.gB/\v.gB<w.heap.size/\lo<=v.gL/\v.gL<w.heap.size:=
 ⟨(h.rc.lt _ rfl).1,(h.rc.lt _ rfl).2,(h.wt.lt _ rfl).1,(h.wt.lt _ rfl).2,(h.bk.lt _ rfl).1,(h.bk.lt _ rfl).2,(h.lg.lt _ rfl).1,(h.lg.lt _ rfl).2⟩
def eA.slcR (h:eA w lo v r):bX w lo w.heap.size 7 (some ⟨v.gR,0,none⟩) r.recs.length v.cR (recs r.recs):=Ak h.rc aH
def eA.slcW (h:eA w lo v r):bX w lo w.heap.size 2 (some ⟨v.gW,0,none⟩) r.wait.length v.cW (bF r.wait):=Ak h.wt aH
def eA.slcB (h:eA w lo v r):bX w lo w.heap.size 2 (some ⟨v.gB,0,none⟩) r.back.length v.cB (bF r.back):=Ak h.bk aH
def eA.clock (h:eA w lo v r)(k:Int):eA w lo v {r with clk:=k}:=⟨h.rc,h.wt,h.bk,h.lg,h.ap⟩
variable {xs:List bJ}
def eA.newW {m g c:Nat}(h:eA w lo v r)(hk:∀b,b<w.heap.size->w'.heap[b]? =w.heap[b]?)(ho:w'.ownsRow lo 100 2 (.slice (some ⟨g,0,none⟩) m c) m (bF xs))(hm:m=xs.length)(hg:w.heap.size<=g):
 eA w' lo {v with gW:=g,cW:=c} {r with wait:=xs}:=by
 have l:=h.lts;have k:=h.keep hk;subst hm;exact⟨k.rc,ho,k.bk,k.lg,by have:=h.ap;simp only;omega⟩
def eA.newB {m g c:Nat}(h:eA w lo v r)(hk:∀b,b<w.heap.size->w'.heap[b]? =w.heap[b]?)(ho:w'.ownsRow lo 100 2 (.slice (some ⟨g,0,none⟩) m c) m (bF xs))(hm:m=xs.length)(hg:w.heap.size<=g):
 eA w' lo {v with gB:=g,cB:=c} {r with back:=xs}:=by
 have l:=h.lts;have k:=h.keep hk;subst hm;exact⟨k.rc,k.wt,ho,k.lg,by have:=h.ap;simp only;omega⟩
def eA.appB {m g c:Nat}{x:bJ}(h:eA w lo v r)(hg:w.grownBy w' (some v.gB))(ho:w'.ownsRow lo 100 2 (.slice (some ⟨g,0,none⟩) m c) m (bF r.back++x.cells))(hm:m=r.back.length+1)(hw:g=v.gB\/w.heap.size<=g):
 eA w' lo {v with gB:=g,cB:=c} {r with back:=r.back++[x]}:=by
 have l:=h.lts;have a:=h.ap;subst hm;refine⟨h.rc.kept hg (.inr Gx),h.wt.kept hg (.inr Gx),?_,h.lg.kept hg (.inr Gx),by simp only;omega⟩;have e:bF (r.back++[x])=bF r.back++x.cells:=zxJ _ _;simp only[fM.sB,gM,qA,rY];rw[e];exact ho
def eA.appR {m g c:Nat}{x:bT}(h:eA w lo v r)(hg:w.grownBy w' (some v.gR))(ho:w'.ownsRow lo 50 7 (.slice (some ⟨g,0,none⟩) m c) m (recs r.recs++x.cells))(hm:m=r.recs.length+1)(hw:g=v.gR\/w.heap.size<=g):
 eA w' lo {v with gR:=g,cR:=c} {r with recs:=r.recs++[x]}:=by
 have l:=h.lts;have a:=h.ap;subst hm;refine⟨?_,h.wt.kept hg (.inr Gx),h.bk.kept hg (.inr Gx),h.lg.kept hg (.inr Gx),by simp only;omega⟩;have e:recs (r.recs++[x])=recs r.recs++x.cells:=by simp[recs]
 simp only[fM.sR,gM,qA,rY];rw[e];exact ho
def eA.appL {m g c:Nat}{x:List UInt8}(h:eA w lo v r)(hg:w.grownBy w' (some v.gL))(ho:w'.ownsRow lo 9 1 (.slice (some ⟨g,0,none⟩) m c) m (nG r.log++[.string ⟨x.toArray⟩]))(hm:m=r.log.length+1)(hw:g=v.gL\/w.heap.size<=g):
 eA w' lo {v with gL:=g,cL:=c} {r with log:=r.log++[x]}:=by
 have l:=h.lts;have a:=h.ap;subst hm;refine⟨h.rc.kept hg (.inr Gx),h.wt.kept hg (.inr Gx),h.bk.kept hg (.inr Gx),?_,by simp only;omega⟩;have e:nG (r.log++[x])=nG r.log++[.string ⟨x.toArray⟩]:=by simp[nG,txt]
 simp only[fM.sL,gM,qA,rY];rw[e];exact ho
end
variable {d:bT}{rs:List bT}{i:Nat}{v:aF}
def zq5 {f:bT->bT}(hd:rs[i]? =some d)(hj:j<7)(hs:∀k,k<7->k≠j->(f d).cells[k]? =d.cells[k]?)(hv:(f d).cells[j]? =some v):(recs rs).set (i*7+j) v=recs (rs.modify i f):=by
 apply Uw;intro q;obtain⟨a,b,rfl,hb⟩:∃a b,q=a*7+b/\b<7:=⟨q/7,q%7,aC,aC⟩;have g:∀(l:List bT),(recs l)[a*7+b]? =(l[a]?).bind λx=>x.cells[b]? :=λl=>Hm bT.cells (s:=7) (λ_=>rfl) l a b hb;rw[List.getElem?_set,g,g,zD];have hlen:=ztz rs;have hi:=(kE.1 hd).1;by_cases e:i*7+j=a*7+b
 .have e1:i=a:=aC
  have e2:j=b:=aC;subst e1 e2;rw[if_pos e,if_pos aC,hd];simp[hv]
 .rw[if_neg e]
  by_cases e1:i=a
  .subst e1
   rw[hd];have:=hs b hb aC;simp[this]
  .simp[e1]
def zAP (l:Int)(h:rs[k]? =some d):rB (rs.take (k+1)) l=(rB (rs.take k) l||(d.l==l&&eI d)):=by
 unfold rB;rw[Nb,h];simp[List.any_append]
def zJb (rs:List bT)(n:Nat):x6 rs (n+1)=x6 rs n++(if rB rs ((n:Int)+1) then[] else[(n:Int)+1]):=by
 unfold x6;rw[List.range_succ,List.map_append,P4];congr 1;simp only[fK,tL,zn8,List.filter_nil];cases rB rs ((n:Int)+1)<;>simp
def ziu (rs:List bT)(n:Nat):(x6 rs n).length<=n:=by
 unfold x6;exact eG (zc2 _ _) aQ
def zzG (xs:List Int)(x:Int):jX (xs++[x])=jX xs++[.int .i64 x]:=by simp[jX]
def zDa:(aK.info? 3).map (λi=>(i.zero,i.size,i.bytes))=some (some (.int .i64 0),1,8):=aP
def Cs {o:jD}(h:rR o=true):1<=o.ln/\o.ln<=6/\1<=o.op/\o.op<=4/\1<=o.pt/\o.pt<=60:=of_decide_eq_true h
def zpo (lo:Nat)(v:fM)(r:b7)(w:aE)(h:eA w lo v r)(hn:r.recs.length<=100000)(ho:rR r.o=true):
 fH aK 90 #[.agg (fS v r)] w λe w'=>∃x,e=.returned x/\znK 3 1 w (oJ r.o r.recs).length (jX (oJ r.o r.recs)) x w':=by
 obtain⟨i0,fR,jN,eL,lH⟩:=zI zDa;have HI:=aD (And.intro fR (And.intro jN (And.intro eL lH)));clear fR jN eL lH;obtain⟨l0,l1,-,-,-,-⟩:=Cs ho;have hs:=h.slcR;obtain⟨n,Cm⟩:=aU r.recs.length;have zL0:n<=100000:=aC;have HN:=aD Cm;obtain⟨rs,zfe⟩:=aU r.recs;have zKv:=aD zfe;obtain⟨gb,eV⟩:=aU w.heap.size;have fQ:=aD eV;obtain⟨ln,yJ⟩:=aU r.o.ln;have ztP:=aD yJ;obtain⟨m,hm⟩:=aU (ln.toNat:Nat);have Vs:ln=(m:Int):=aC;obtain⟨O,hO⟩:=aU (.cells (fS v r) 59:tM);have gV:(w.alloc O).heap[gb]? =some (G4 v r):=by rw[hO,eV];exact lQ _ _
 have B0:bR w.heap.size w (w.alloc O):=dS (eF _ _) O;have hz:(w.alloc O).heap.size=gb+1:=by rw[eV];simp
 have hF:oJ r.o r.recs=x6 rs m:=by unfold oJ;rw[<-yJ,<-zfe,<-hm]
 have HF:=aD hF;have Ia:=aJ gV 0;rw[<-Cm,<-zfe] at hs;have zFN:=aD gV;have Nk:=aD B0;have HZ:=aD hz;rw[<-yJ] at l0 l1;clear hF Cm zfe eV yJ hm h Ia;have HO:=aD hO;have zFI:=aD Vs;rw[Vs] at l0 l1;clear hO gV B0 hz
 go_enter Tryz.func90,Tryz.ntmps90
 go_wp2_with fail
 rw[<-HO.o]
 go_loopw [3,4] (λx i wr=>∃(k g L cl:Nat),k<=m/\i=.int .i64 ((k:Int)+1)/\L=(x6 rs k).length/\x=.slice (some ⟨g,0,none⟩) L cl/\bR (gb+1) (w.alloc O) wr/\wr.ownsRow (gb+1) 3 1 (.slice (some ⟨g,0,none⟩) L cl) L (jX (x6 rs k))) (λ_ i _=>1000-(intOf i).toNat)
 case atStart=>
  have hz:=HZ.o;refine⟨0,gb+1,0,0,jY _,aQ,rfl,by rw[fQ.o],?_,Pd (aX _) (mV _ _ hz.symm)⟩;rw[<-hz];exact dS (eF _ _) _
 case round=>
  obtain⟨k,g,L,cl,hk,rfl,hL,rfl,B,cV⟩:=hrel;have HL:=aD hL;have Rv:=aD cV;have HB:=aD B;have zoS:=B.size;have hz:=HZ.o;have qP:=(B.block gb aC).trans zFN.o;have e0:=aJ qP 0;have e4:=aJ qP 4;have hlen:=ziu rs k;rw[<-hL] at hlen;have Fu:=hs.below (Nk.o.trans (B.mono (by have:=fQ.o;omega)));have zeU:wr.cell? ⟨w.heap.size,0,none⟩=some (.int .i64 (m:Int)):=by rw[<-fQ.o,e0,<-zFI.o,ztP.o];rfl
  have zKp:wr.cell? ⟨w.heap.size,4,none⟩=some (.slice (some ⟨v.gR,0,none⟩) n v.cR):=by rw[<-fQ.o,e4,HN.o];rfl
  have zgb:=aD (zJb rs k);have zAl:=aD Fu.recLen;clear hL cV e0 e4 qP B hz hs;by_cases aN:k<m
  .obtain⟨l,hl⟩:=aU ((k:Int)+1:Int)
   have zKJ:1<=l:=aC;have zud:l<=(m:Int):=aC;rw[<-hl] at zgb⊢;have ze4:=aD hl;clear hl
   go_wp2_with fail
   go_loop [5,6] (λu i=>∃j:Nat,j<=n/\u=.bool (rB (rs.take j) l)/\i=.int .i64 j) (λ_ i=>n-(intOf i).toNat)
   case atStart=>exact⟨0,jY _,rfl,rfl⟩
   case round=>
    obtain⟨j,hj,rfl,rfl⟩:=hrel;by_cases zIw:j<n
    .obtain⟨b,off,d,hA,_,_,h3,eK,fJ,pP,xG,Lc,Ka,nN,zem⟩:=Fu.rec7 zIw
     have HU:=aD (zAP l eK);have i0:(0:Int)<=(j:Int):=aC;have i1:(j:Int)<(n:Int):=aC;injection hA with hA;injection hA with zT y5;subst zT y5;simp only[qZ] at pP zem;clear eK Fu fJ xG Lc Ka nN h3;cases hu:rB (rs.take j) l
     .rw[hu] at HU
      cases hq:(d.l==l)
      .have Fh:=aD (show rB (rs.take (j+1)) l=false by rw[HU.o,hq];rfl)
       go_wp2
       go_round
       case rel=>exact⟨j+1,aC,by rw[Fh.o],n6⟩
       case measure=>simp[intOf];omega
      .cases hd:(d.e.toList==[111,112,101,110])
       .have Fh:=aD (show rB (rs.take (j+1)) l=false by rw[HU.o,hq];unfold eI;rw[hd];rfl)
        go_wp2
        go_round
        case rel=>exact⟨j+1,aC,by rw[Fh.o],n6⟩
        case measure=>simp[intOf];omega
       .have Fh:=aD (show rB (rs.take (j+1)) l=true by rw[HU.o,hq];unfold eI;rw[hd];rfl)
        go_wp2
        go_round
        case rel=>exact⟨j+1,aC,by rw[Fh.o],n6⟩
        case measure=>simp[intOf];omega
     .rw[hu] at HU
      have Fh:=aD (show rB (rs.take (j+1)) l=true by rw[HU.o];rfl);clear pP zem;go_wp2
      go_round
      case rel=>exact⟨j+1,aC,by rw[Fh.o],n6⟩
      case measure=>simp[intOf];omega
    .have e:j=n:=aC
     subst e;have HT:=aD (show rs.take j=rs by rw[zP (by rw[zAl.o];exact aX _)]);rw[HT.o];clear Fu;obtain⟨u,hu⟩:=aU (rB rs l);rw[<-hu] at zgb⊢;clear hu;cases u
     .have Fh:=aD (show x6 rs (k+1)=x6 rs k++[l] by rw[zgb.o];rfl)
      obtain⟨fR,jN,eL,lH⟩:=HI.o;have HH:=aD fR;have zdG:=HZ.o;clear fR
      go_wp2_with (at_builtin;refine zvv _ rfl (.tmp 44) (.tmp 46) 38 rfl (gb+1) 3 i0 (.int .i64 0) 1 8 Tryz.underlying38 HH.o jN eL lH rfl aH (.slice (some ⟨g,0,none⟩) L cl) L (jX (x6 rs k)) rfl (Aj Rv.o ?c1) aQ ⟨_,0,none⟩ 1 1 [.int .i64 l] rfl rfl ?c2 Ng ?c5 ?c6 ?c7 ?_;(case c1=>exact λb hb=>uB _ _ b hb);(case c2=>exact E0 (cs:=#[.int .i64 l]) (mV _ _ aQ));(case c5=>unfold maxLen;omega);(case c6=>omega);(case c7=>(simp;omega));intro g1 c1 w1 sH rN B1;have Cv:=aD sH;have pX:=aD B1;clear sH rN B1)
      go_roundw
      case rel=>
       refine⟨k+1,g1,L+1,c1,aC,by rw[ze4.o];push_cast;rfl,by rw[Fh.o,HL.o];simp,rfl,?_,?_⟩
       .have b1:=HB.o
        exact(b1.alloc (by have:=HB.o.size;have:=HZ.o;omega) _).trans pX.o
       .rw[Fh.o,zzG];exact Cv.o
      case measure=>have:=ze4.o;simp[intOf];omega
     .have Fh:=aD (show x6 rs (k+1)=x6 rs k by rw[zgb.o];simp)
      go_wp2;go_roundw
      case rel=>exact⟨k+1,g,L,cl,aC,by rw[ze4.o];push_cast;rfl,by rw[Fh.o];exact HL.o,rfl,HB.o,by rw[Fh.o];exact Rv.o⟩
      case measure=>have:=ze4.o;simp[intOf];omega
  .have e:k=m:=aC
   subst e;clear Fu;go_wp2;go_ret;refine⟨_,rfl,g,cl,by rw[HF.o,<-HL.o];rfl,?_,Nk.o.trans (HB.o.mono (by have:=fQ.o;omega))⟩;rw[HF.o,<-HL.o];obtain⟨h1,h2⟩:=Rv.o;refine⟨h1,h2.imp id λ⟨b,cap,cur,e1,e2,e3⟩=>⟨b,cap,cur,e1,by have:=fQ.o;omega,e3⟩⟩
variable {xs:List aF}{s:Nat}
def bX.takeS {g:Nat}(h:bX w lo hi s (some ⟨g,0,none⟩) n c xs)(hk:k<=n):bX w lo hi s (some ⟨g,0,none⟩) k c (xs.take (k*s)):=by
 refine⟨by rw[rV,h.len];exact Nat.min_eq_left (Am _ hk),eG hk h.le,h.cap,λh0=>?_⟩;obtain⟨b,off,e,h1,h2,h3,h4⟩:=h.at_ aC;refine⟨b,off,e,h1,h2,h3,λj v hv=>h4 j v ?_⟩;rw[List.getElem?_take] at hv;split at hv
 .exact hv
 .cases hv
def bX.dropS {g:Nat}(h:bX w lo hi s (some ⟨g,0,none⟩) n c xs)(hk:k<=n):bX w lo hi s (some ⟨g,k*s,none⟩) (n-k) (c-k) (xs.drop (k*s)):=by
 refine⟨by rw[xO,h.len,Nat.sub_mul],by have:=h.le;omega,by have:=h.cap;omega,λh0=>?_⟩;obtain⟨b,off,e,h1,h2,h3,h4⟩:=h.at_ aC;injection e with e;injection e with e1 e2;subst e1 e2;refine⟨g,k*s,rfl,h1,h2,h3,λj v hv=>?_⟩;rw[List.getElem?_drop] at hv;have:=h4 (k*s+j) v hv
 rwa [qZ] at this
def bX.dropI {g:Nat}(h:bX w lo hi s (some ⟨g,0,none⟩) n c xs)(hk:k<=n):bX w lo hi s (if c=k then some ⟨g,0,none⟩ else some ⟨g,k*s,none⟩) (n-k) (c-k) (xs.drop (k*s)):=by
 have d:=h.dropS hk;by_cases e:c=k
 .rw[if_pos e]
  exact⟨d.len,d.le,d.cap,λh0=>by have:=h.le;omega⟩
 .rw[if_neg e];exact d
def zuF (xs:List bJ)(k:Nat):(bF xs).take (k*2)=bF (xs.take k):=by
 induction xs generalizing k with
 |nil=>simp[bF]
 |cons x xs ih=>
  cases k with
  |zero=>simp[bF]
  |succ k=>
   have e:(k+1)*2=k*2+1+1:=aC;rw[e];simp only[bF,zcT,bJ.cells,S4,zfy,List.take_succ_cons];have:=ih k;unfold bF at this;rw[this]
def zva (xs:List bJ)(k:Nat):(bF xs).drop (k*2)=bF (xs.drop k):=by
 induction xs generalizing k with
 |nil=>simp[bF]
 |cons x xs ih=>
  cases k with
  |zero=>simp[bF]
  |succ k=>
   have e:(k+1)*2=k*2+1+1:=aC;rw[e];simp only[bF,zcT,bJ.cells,S4,zfy,List.drop_succ_cons];have:=ih k;unfold bF at this;rw[this]
def zow (xs ys:List bJ):bF (xs++ys)=bF xs++bF ys:=by simp[bF]
def Wc (xs:List bJ):∀u∈bF xs,u.oneCell'=true:=by
 intro u hu;obtain⟨d,_,hd⟩:=List.mem_flatMap.1 hu;simp only[bJ.cells,jL,List.not_mem_nil,or_false] at hd;rcases hd with rfl|rfl<;>rfl
def zq2 {xs:List bJ}{x:bJ}(hk:k<=xs.length)(h:∀j,j<k->∀b,xs[j]? =some b->x.p<=b.p)(hn:∀b,xs[k]? =some b->¬x.p<=b.p):tN xs x=xs.take k++x::xs.drop k:=by
 unfold tN
 induction xs generalizing k with
 |nil=>simp
 |cons y ys ih=>
  cases k with
  |zero=>
   have:=hn y rfl;simp[zde,zpK,this]
  |succ k=>
   have hy:=h 0 aC y rfl;have:=ih (k:=k) (by simpa using hk) (λj hj b hb=>h (j+1) aC b zg2) (λb hb=>hn b zg2);simp[zde,zpK,hy,this]
def zcg (h:W.cell? a1=some v1/\W.cell? a2=some v2/\bR W0.heap.size W0 W):bR W0.heap.size W0 W:=h.2.2
variable {u:aF}
def zrF {a b:bL}(h:w.cell? a=some u)(k:w.cell? b=some v):w.cell? a=some u/\w.cell? b=some v:=⟨h,k⟩
def zzu (lo hi n c g:Nat)(xs:List bJ)(x:bJ)(w:aE)(h:bX w lo hi 2 (some ⟨g,0,none⟩) n c (bF xs))(hn:n<=100000):
 fH aK 93 #[.slice (some ⟨g,0,none⟩) n c,.agg #[.int .i64 x.c,.int .i64 x.p]] w λe w'=>∃v,e=.returned v/\znK 100 2 w (tN xs x).length (bF (tN xs x)) v w':=by
 have hl:=aD h.callsLen;have zoy:=aD h.le;obtain⟨i0,fR,jN,eL,lH⟩:=zI zga;have HI:=aD (And.intro fR (And.intro jN (And.intro eL lH)));clear fR jN eL lH;obtain⟨gb,eV⟩:=aU w.heap.size;have fQ:=aD eV;obtain⟨O,hO⟩:=aU (.cells #[.int .i64 x.c,.int .i64 x.p] 100:tM);have gV:(w.alloc O).heap[gb]? =some (.cells #[.int .i64 x.c,.int .i64 x.p] 100):=by rw[hO,eV];exact lQ _ _
 have Bp:=aD gV;have Nk:=aD (dS (eF w.heap.size w) O);have HO:=aD hO;clear eV hO gV
 go_enter Tryz.func93,Tryz.ntmps93
 go_wp2_with fail
 rw[<-HO.o,<-fQ.o]
 go_loopw [5] (λi wr=>∃k:Nat,k<=n/\i=.int .i64 k/\bR (w.alloc O).heap.size (w.alloc O) wr/\∀j,j<k->∀b,xs[j]? =some b->x.p<=b.p) (λi _=>n-(intOf i).toNat)
 case atStart=>exact⟨0,jY _,rfl,eF _ _,λj hj=>absurd hj aC⟩
 case round=>
  obtain⟨k,hk,rfl,B,fW⟩:=hrel;have HC:=aD fW;have kg:=(eD B Bp.o).1;have zg:=(eD B Bp.o).2;have e0:=aJ kg 0;have e1:=aJ kg 1;have BW:=Nk.o.trans (B.mono Nk.o.size);have hs:=h.below BW;have zFw:(0:Int)<=(k:Int):=aC;have K5:=aD BW;have HB:=aD B;clear fW kg BW B;by_cases aN:k<n
  .obtain⟨b,off,d,hA,_,_,h3,eK,fJ,pP⟩:=hs.callsAt aN
   injection hA with hA;injection hA with zT y5;subst zT y5;simp only[qZ] at fJ pP;have HX:=aD eK;have i1:(k:Int)<(n:Int):=aC;by_cases hp:x.p<=d.p
   .have HP:=aD hp
    have zFS:=decide_eq_true hp;clear eK h hs h3 fJ hp
    go_wp2_with fail
    go_quiet (fail)
    go_wp2;go_roundw
    case rel=>exact⟨k+1,aC,n6,⟨HB.o.os,HB.o.tape,HB.o.output,HB.o.size,HB.o.block⟩,λj hj b hb=>by
     by_cases e:j=k
     .subst e;rw[HX.o] at hb;injection hb with hb;exact hb▸HP.o
     .exact HC.o j aC b hb⟩
    case measure=>simp[intOf];omega
   .have HQ:=aD (zq2 (x:=x) (k:=k) (by rw[hl.o];exact hk) HC.o (λb hb=>by rw[eK] at hb;injection hb with hb;exact hb▸hp))
    have zFS:=decide_eq_false hp;clear eK h3 fJ hp
    go_wp2_with fail
    go_quiet (fail)
    go_wp2_with fail
    obtain⟨wq,qT⟩:=aU (wr.drewN nq);rw[<-qT];replace hs:bX wq lo hi 2 (some ⟨g,0,none⟩) n c (bF xs):=by rw[qT];exact⟨hs.len,hs.le,hs.cap,hs.at_⟩
    replace e0:wq.cell? ⟨gb,0,none⟩=some (.int .i64 x.c):=by rw[qT];exact e0
    replace e1:wq.cell? ⟨gb,1,none⟩=some (.int .i64 x.p):=by rw[qT];exact e1
    replace zg:gb<wq.heap.size:=by rw[qT];exact zg
    have zcF:=aD (show bR w.heap.size w wq by rw[qT];exact⟨K5.o.os,K5.o.tape,K5.o.output,K5.o.size,K5.o.block⟩);have zDH:=aD (show wr.heap.size<=wq.heap.size by rw[qT];exact aX _);clear qT;have HN:=aD (aX wq.heap.size);have Ed:=aD (zuF xs k▸hs.takeS hk);have Su:=aD (zva xs k▸hs.dropI hk);have zqk:=aD zg;obtain⟨fR,jN,eL,lH⟩:=HI.o;have HH:=aD fR;have mR:=zoy.o;have za3:=aD (zrF e0 e1);have k1:(k:Int)<=(n:Int):=aC;have k2:(n:Int)<=(c:Int):=aC;have k3:(k:Int)<=(c:Int):=aC;clear fR hs h
    go_region_held3 (λW=>W.cell? ⟨gb,0,none⟩=some (.int .i64 x.c)/\W.cell? ⟨gb,1,none⟩=some (.int .i64 x.p)/\bR wq.heap.size wq W)
     ((refine zr2 zer zer za3.o.1 za3.o.2 ?_;(repeat' (first|with_reducible assumption|with_reducible exact zcg Qr|with_reducible exact eF _ _|with_reducible apply dS|with_reducible apply zby));done))
     (first
      |(refine zeF _ rfl (.tmp 22) (.tmp 25) 57 rfl wq.heap.size 100 i0 (.agg #[.int .i64 0,.int .i64 0]) 2 16 Ln HH.o jN eL lH rfl aH _ 0 0 [] rfl (Pd ?c1 ?c2) (some ⟨g,0,none⟩) k c _ _ (bF (xs.take k)) rfl (Ed.o.below ?c3) (Wc _) ?c5 ?c6 ?c7 ?_;(case c1=>first|omega|(simp;done)|(simp;omega));(case c2=>((try with_reducible apply J4);(first|with_reducible assumption|(with_reducible refine mV _ _ ?_;simp)|(with_reducible refine dJ ?_ _;first|with_reducible assumption|(with_reducible refine mV _ _ ?_;simp))|(with_reducible refine dJ ?_ _;with_reducible refine dJ ?_ _;first|with_reducible assumption|(with_reducible refine mV _ _ ?_;simp))|(with_reducible refine dJ ?_ _;with_reducible refine dJ ?_ _;with_reducible refine dJ ?_ _;first|with_reducible assumption|(with_reducible refine mV _ _ ?_;simp)))));(case c3=>(repeat' (first|with_reducible assumption|with_reducible exact zcg Qr|with_reducible exact eF _ _|with_reducible apply dS|with_reducible apply zby)));(case c5=>unfold maxLen;omega);(case c6=>omega);(case c7=>first|omega|(simp;done)|(simp;omega));intro g1 znW w9 sH rN B1;rw[qZ];simp only[qZ,zfy] at sH;have Cv:=aD sH;have sG:=aD rN;have BW:=bR.trans zoo B1;have z9:=BW.size;clear sH rN B1)
      |(refine zvI _ rfl (.tmp 26) (.tmp 28) 57 rfl wq.heap.size 100 i0 (.agg #[.int .i64 0,.int .i64 0]) 2 16 Ln HH.o jN eL lH rfl aH (.slice (some ⟨g1,0,none⟩) k znW) k (bF (xs.take k)) rfl ?c1 aQ ⟨_,0,none⟩ 1 1 [.int .i64 x.c,.int .i64 x.p] rfl rfl (E0 (cs:=#[.int .i64 x.c,.int .i64 x.p]) (t:=100) (fr:=(0,0)) ?c2) (by simp[zul]) ?c5 ?c6 ?c7 ?_;(case c1=>first|exact Cv.o|exact Aj Cv.o (λb hb=>uB _ _ b hb));(case c2=>first|exact lQ _ _|exact(sG.o.block _ zeE zu9).trans (by((try with_reducible apply J4);(first|with_reducible assumption|(with_reducible refine mV _ _ ?_;simp)|(with_reducible refine dJ ?_ _;first|with_reducible assumption|(with_reducible refine mV _ _ ?_;simp))|(with_reducible refine dJ ?_ _;with_reducible refine dJ ?_ _;first|with_reducible assumption|(with_reducible refine mV _ _ ?_;simp))|(with_reducible refine dJ ?_ _;with_reducible refine dJ ?_ _;with_reducible refine dJ ?_ _;first|with_reducible assumption|(with_reducible refine mV _ _ ?_;simp))))));(case c5=>unfold maxLen;omega);(case c6=>omega);(case c7=>first|omega|(simp;done)|(simp;omega));intro g2 ziA vZ zbz zjE B2;have zlt:=aD zbz;have Q3:=bR.trans (by first|exact BW|exact dS BW _) B2;have zIV:=Q3.size;clear zbz zjE B2)
      |(refine zeF _ rfl (.tmp 29) (.tmp 32) 57 rfl wq.heap.size 100 i0 (.agg #[.int .i64 0,.int .i64 0]) 2 16 Ln HH.o jN eL lH rfl aH g2 (k+1) ziA (bF (xs.take k)++[.int .i64 x.c,.int .i64 x.p]) rfl zlt.o (if c=k then some ⟨g,0,none⟩ else some ⟨g,k*2,none⟩) (n-k) (c-k) _ _ (bF (xs.drop k)) rfl (Su.o.below Q3) (Wc _) ?c5 ?c6 ?c7 ?_;(case c5=>unfold maxLen;omega);(case c6=>omega);(case c7=>first|omega|(simp;done)|(simp;omega));intro g3 zj0 Bm Z9 zjp B3;have ziz:=aD Z9;have zb2:=Q3.trans B3;have zDz:=zb2.size;clear Z9 zjp B3))
    all_goals go_wp2_with fail
    all_goals go_ret
    all_goals
     have zdG:=zcF.o.size;have eQ:(tN xs x).length=k+1+(n-k):=by
      rw[HQ.o,gM,rV,qA,xO,hl.o];omega
     refine⟨_,rfl,g3,zj0,?_,?_,zcF.o.trans (zb2.mono zdG)⟩
     .rw[eQ];rfl
     .obtain⟨h1,h2⟩:=ziz.o
      have e:=eQ;have e2:bF (tN xs x)=bF (xs.take k)++[.int .i64 x.c,.int .i64 x.p]++bF (xs.drop k):=by rw[HQ.o,zow];simp[bF,bJ.cells]
      rw[e,e2];exact⟨h1,h2.imp id λ⟨b,cap,cur,e1,e2,e3⟩=>⟨b,cap,cur,e1,aC,e3⟩⟩
  .have HQ:=aD (zq2 (x:=x) (k:=k) (by rw[hl.o];exact hk) HC.o (λb hb=>by rw[Cu (by rw[hl.o];omega)] at hb;cases hb))
   have nK:=decide_eq_false aC
   go_wp2_with fail
   go_quiet (fail)
   go_wp2_with fail
   obtain⟨wq,qT⟩:=aU (wr.drewN nq);rw[<-qT];replace hs:bX wq lo hi 2 (some ⟨g,0,none⟩) n c (bF xs):=by rw[qT];exact⟨hs.len,hs.le,hs.cap,hs.at_⟩
   replace e0:wq.cell? ⟨gb,0,none⟩=some (.int .i64 x.c):=by rw[qT];exact e0
   replace e1:wq.cell? ⟨gb,1,none⟩=some (.int .i64 x.p):=by rw[qT];exact e1
   replace zg:gb<wq.heap.size:=by rw[qT];exact zg
   have zcF:=aD (show bR w.heap.size w wq by rw[qT];exact⟨K5.o.os,K5.o.tape,K5.o.output,K5.o.size,K5.o.block⟩);have zDH:=aD (show wr.heap.size<=wq.heap.size by rw[qT];exact aX _);clear qT;have HN:=aD (aX wq.heap.size);have Ed:=aD (zuF xs k▸hs.takeS hk);have Su:=aD (zva xs k▸hs.dropI hk);have zqk:=aD zg;obtain⟨fR,jN,eL,lH⟩:=HI.o;have HH:=aD fR;have mR:=zoy.o;have za3:=aD (zrF e0 e1);have k1:(k:Int)<=(n:Int):=aC;have k2:(n:Int)<=(c:Int):=aC;have k3:(k:Int)<=(c:Int):=aC;clear fR hs h
   go_region_held3 (λW=>W.cell? ⟨gb,0,none⟩=some (.int .i64 x.c)/\W.cell? ⟨gb,1,none⟩=some (.int .i64 x.p)/\bR wq.heap.size wq W)
    ((refine zr2 zer zer za3.o.1 za3.o.2 ?_;(repeat' (first|with_reducible assumption|with_reducible exact zcg Qr|with_reducible exact eF _ _|with_reducible apply dS|with_reducible apply zby));done))
    (first
     |(refine zeF _ rfl (.tmp 22) (.tmp 25) 57 rfl wq.heap.size 100 i0 (.agg #[.int .i64 0,.int .i64 0]) 2 16 Ln HH.o jN eL lH rfl aH _ 0 0 [] rfl (Pd ?c1 ?c2) (some ⟨g,0,none⟩) k c _ _ (bF (xs.take k)) rfl (Ed.o.below ?c3) (Wc _) ?c5 ?c6 ?c7 ?_;(case c1=>first|omega|(simp;done)|(simp;omega));(case c2=>((try with_reducible apply J4);(first|with_reducible assumption|(with_reducible refine mV _ _ ?_;simp)|(with_reducible refine dJ ?_ _;first|with_reducible assumption|(with_reducible refine mV _ _ ?_;simp))|(with_reducible refine dJ ?_ _;with_reducible refine dJ ?_ _;first|with_reducible assumption|(with_reducible refine mV _ _ ?_;simp))|(with_reducible refine dJ ?_ _;with_reducible refine dJ ?_ _;with_reducible refine dJ ?_ _;first|with_reducible assumption|(with_reducible refine mV _ _ ?_;simp)))));(case c3=>(repeat' (first|with_reducible assumption|with_reducible exact zcg Qr|with_reducible exact eF _ _|with_reducible apply dS|with_reducible apply zby)));(case c5=>unfold maxLen;omega);(case c6=>omega);(case c7=>first|omega|(simp;done)|(simp;omega));intro g1 znW w9 sH rN B1;rw[qZ];simp only[qZ,zfy] at sH;have Cv:=aD sH;have sG:=aD rN;have BW:=bR.trans zoo B1;have z9:=BW.size;clear sH rN B1)
     |(refine zvI _ rfl (.tmp 26) (.tmp 28) 57 rfl wq.heap.size 100 i0 (.agg #[.int .i64 0,.int .i64 0]) 2 16 Ln HH.o jN eL lH rfl aH (.slice (some ⟨g1,0,none⟩) k znW) k (bF (xs.take k)) rfl ?c1 aQ ⟨_,0,none⟩ 1 1 [.int .i64 x.c,.int .i64 x.p] rfl rfl (E0 (cs:=#[.int .i64 x.c,.int .i64 x.p]) (t:=100) (fr:=(0,0)) ?c2) (by simp[zul]) ?c5 ?c6 ?c7 ?_;(case c1=>first|exact Cv.o|exact Aj Cv.o (λb hb=>uB _ _ b hb));(case c2=>first|exact lQ _ _|exact(sG.o.block _ zeE zu9).trans (by((try with_reducible apply J4);(first|with_reducible assumption|(with_reducible refine mV _ _ ?_;simp)|(with_reducible refine dJ ?_ _;first|with_reducible assumption|(with_reducible refine mV _ _ ?_;simp))|(with_reducible refine dJ ?_ _;with_reducible refine dJ ?_ _;first|with_reducible assumption|(with_reducible refine mV _ _ ?_;simp))|(with_reducible refine dJ ?_ _;with_reducible refine dJ ?_ _;with_reducible refine dJ ?_ _;first|with_reducible assumption|(with_reducible refine mV _ _ ?_;simp))))));(case c5=>unfold maxLen;omega);(case c6=>omega);(case c7=>first|omega|(simp;done)|(simp;omega));intro g2 ziA vZ zbz zjE B2;have zlt:=aD zbz;have Q3:=bR.trans (by first|exact BW|exact dS BW _) B2;have zIV:=Q3.size;clear zbz zjE B2)
     |(refine zeF _ rfl (.tmp 29) (.tmp 32) 57 rfl wq.heap.size 100 i0 (.agg #[.int .i64 0,.int .i64 0]) 2 16 Ln HH.o jN eL lH rfl aH g2 (k+1) ziA (bF (xs.take k)++[.int .i64 x.c,.int .i64 x.p]) rfl zlt.o (if c=k then some ⟨g,0,none⟩ else some ⟨g,k*2,none⟩) (n-k) (c-k) _ _ (bF (xs.drop k)) rfl (Su.o.below Q3) (Wc _) ?c5 ?c6 ?c7 ?_;(case c5=>unfold maxLen;omega);(case c6=>omega);(case c7=>first|omega|(simp;done)|(simp;omega));intro g3 zj0 Bm Z9 zjp B3;have ziz:=aD Z9;have zb2:=Q3.trans B3;have zDz:=zb2.size;clear Z9 zjp B3))
   all_goals go_wp2_with fail
   all_goals go_ret
   all_goals
    have zdG:=zcF.o.size;have eQ:(tN xs x).length=k+1+(n-k):=by
     rw[HQ.o,gM,rV,qA,xO,hl.o];omega
    refine⟨_,rfl,g3,zj0,?_,?_,zcF.o.trans (zb2.mono zdG)⟩
    .rw[eQ];rfl
    .obtain⟨h1,h2⟩:=ziz.o
     have e:=eQ;have e2:bF (tN xs x)=bF (xs.take k)++[.int .i64 x.c,.int .i64 x.p]++bF (xs.drop k):=by rw[HQ.o,zow];simp[bF,bJ.cells]
     rw[e,e2];exact⟨h1,h2.imp id λ⟨b,cap,cur,e1,e2,e3⟩=>⟨b,cap,cur,e1,aC,e3⟩⟩
def zel (l:List α)(i:Nat)(f g:α->α):(l.modify i f).modify i g=l.modify i (λx=>g (f x)):=by
 apply Uw;intro j;rw[zD,zD,zD];by_cases e:i=j
 .simp[e,Function.comp_def]
 .simp[e]
variable {v:fM}{r:b7}
def eA.setR (f:bT->bT)(h:eA w lo v r)(hd:r.recs[i]? =some d)(hj:j<7)(hs:∀k,k<7->k≠j->(f d).cells[k]? =d.cells[k]?)(hv:(f d).cells[j]? =some u):
 eA (w.setCell ⟨v.gR,i*7+j,none⟩ u) lo v {r with recs:=r.recs.modify i f}/\oK v w (w.setCell ⟨v.gR,i*7+j,none⟩ u):=by
 obtain⟨h1,hg⟩:=h.rc.stored (i*7+j) u;rw[zq5 hd hj hs hv] at h1;have a:=h.ap;refine⟨⟨?_,h.wt.kept hg (.inr Gx),h.bk.kept hg (.inr Gx),h.lg.kept hg (.inr Gx),a⟩,⟨hg.os,hg.tape,hg.output,hg.size,λb hb h1 _=>hg.block b hb (λe=>h1 (by injection e))⟩⟩;simp only[fM.sR,Hk];exact h1
def eA.recAt (h:eA w lo v r)(hd:r.recs[i]? =some d):
 w.cell? ⟨v.gR,i*7,none⟩=some (.int .i64 d.c)/\w.cell? ⟨v.gR,i*7+1,none⟩=some (.int .i64 d.l)/\w.cell? ⟨v.gR,i*7+2,none⟩=some (.int .i64 d.o)/\w.cell? ⟨v.gR,i*7+3,none⟩=some (.int .i64 d.f)/\w.cell? ⟨v.gR,i*7+4,none⟩=some (.int .i64 d.h)/\w.cell? ⟨v.gR,i*7+5,none⟩=some (.int .i64 d.t)/\w.cell? ⟨v.gR,i*7+6,none⟩=some (.string d.e):=by
 have hi:=(kE.1 hd).1;have g:∀j,j<7->w.cell? ⟨v.gR,i*7+j,none⟩=d.cells[j]? :=λj hj=>by
  rw[h.rc.cellAt (i*7+j) aC];have:=Hm bT.cells (s:=7) (λ_=>rfl) r.recs i j hj;unfold recs;rw[this,hd];rfl
 exact⟨g 0 aH,g 1 aH,g 2 aH,g 3 aH,g 4 aH,g 5 aH,g 6 aH⟩
variable {b:Nat}{w':aE}
def oK.blk {o:tM}(h:oK v w w')(hb:w.heap[b]? =some o)(h1:b≠v.gR)(h2:b≠v.gB):w'.heap[b]? =some o:=(h.block b (fY hb) h1 h2).trans hb
def Ui (h:rs[i]? =some d):G6 rs i=d.c:=by unfold G6;rw[h]
def Cj {E:Nat}{base n g c:Nat}(h:w.ownsRow base E s (.slice (some ⟨g,0,none⟩) n c) n xs)(hb:w'.heap[g]? =w.heap[g]?):w'.ownsRow base E s (.slice (some ⟨g,0,none⟩) n c) n xs:=by
 obtain⟨hl,h|⟨b,cap,cur,e,h1,hg,h2⟩⟩:=h
 .cases h.1
 .injection e with e
  injection e with e;injection e with e;subst e;exact⟨hl,.inr ⟨g,cap,cur,by simp_all,h1,hb.trans hg,h2⟩⟩
def zeH {base base':Nat}{e:aM}{size:Nat}{v:aF}(h:w.ownsRow base e size v n xs)(hb:base'<=base):w.ownsRow base' e size v n xs:=
 ⟨h.1,h.2.imp id λ⟨g,cap,cur,h1,h2,h3⟩=>⟨g,cap,cur,h1,eG hb h2,h3⟩⟩
def zzO (v:fM)(r:b7)(i g cp:Nat)(e:ByteArray):(fS v r).setIfInBounds 5 (.slice (some ⟨g,0,none⟩) (dY r.wait (G6 r.recs i)).length cp)=fS {v with gW:=g,cW:=cp} (lD r i e):=by
 have h:(lD r i e).recs.length=r.recs.length:=Hk _ _ _;simp only[fS,fM.sR,h];rfl
def gX (w:aE)(b:Nat)(a0 a1 a2 a3 a4 a5 a6 a7:aF):World:=(((((((w.setCell ⟨b,0,none⟩ a0).setCell ⟨b,1,none⟩ a1).setCell ⟨b,2,none⟩ a2).setCell ⟨b,3,none⟩ a3).setCell ⟨b,4,none⟩ a4).setCell ⟨b,5,none⟩ a5).setCell ⟨b,6,none⟩ a6).setCell ⟨b,7,none⟩ a7
variable {a0 a1 a2 a3 a4 a5 a6 a7:aF}{T:aM}
def zdb {z0 z1 z2 z3 z4 z5 z6 z7:aF}(h:w.heap[b]? =some (.cells #[z0,z1,z2,z3,z4,z5,z6,z7] T)):(gX w b a0 a1 a2 a3 a4 a5 a6 a7).heap[b]? =some (.cells #[a0,a1,a2,a3,a4,a5,a6,a7] T):=by
 unfold gX;rw[nJ (nJ (nJ (nJ (nJ (nJ (nJ (nJ h a0) a1) a2) a3) a4) a5) a6) a7];simp only[List.setIfInBounds_toArray,List.set_cons_zero,List.set_cons_succ]
def Hc {x:Nat}(h:x≠b):(gX w b a0 a1 a2 a3 a4 a5 a6 a7).heap[x]? =w.heap[x]? :=by
 unfold gX;rw[eH _ _ _ x h,eH _ _ _ x h,eH _ _ _ x h,eH _ _ _ x h,eH _ _ _ x h,eH _ _ _ x h,eH _ _ _ x h,eH _ _ _ x h]
def zlB (w:aE)(b:Nat)(a0 a1 a2 a3 a4 a5 a6 a7:aF):(gX w b a0 a1 a2 a3 a4 a5 a6 a7).heap.size=w.heap.size:=by
 unfold gX;simp only[sN]
def zgi (w:aE)(b:Nat)(a0 a1 a2 a3 a4 a5 a6 a7:aF):pU b (b+1) w (gX w b a0 a1 a2 a3 a4 a5 a6 a7):=
 ((((((((pU.refl b (b+1) w).setCell (p:=⟨b,0,none⟩) (aX _) (wR _) a0).setCell (p:=⟨b,1,none⟩) (aX _) (wR _) a1).setCell (p:=⟨b,2,none⟩) (aX _) (wR _) a2).setCell (p:=⟨b,3,none⟩) (aX _) (wR _) a3).setCell (p:=⟨b,4,none⟩) (aX _) (wR _) a4).setCell (p:=⟨b,5,none⟩) (aX _) (wR _) a5).setCell (p:=⟨b,6,none⟩) (aX _) (wR _) a6).setCell (p:=⟨b,7,none⟩) (aX _) (wR _) a7
def eA.set8 (h:eA w lo v r)(hb:b≠v.gR/\b≠v.gW/\b≠v.gB/\b≠v.gL):eA (gX w b a0 a1 a2 a3 a4 a5 a6 a7) lo v r:=
 ⟨Cj h.rc (Hc (Ne.symm hb.1)),Cj h.wt (Hc (Ne.symm hb.2.1)),Cj h.bk (Hc (Ne.symm hb.2.2.1)),Cj h.lg (Hc (Ne.symm hb.2.2.2)),h.ap⟩
def oK.set8 {w0:aE}(h:oK v w0 w)(hb:w0.heap.size<=b):oK v w0 (gX w b a0 a1 a2 a3 a4 a5 a6 a7):=
 have c:=zgi w b a0 a1 a2 a3 a4 a5 a6 a7
 ⟨c.os.trans h.os,c.tape.trans h.tape,c.output.trans h.output,eG h.size c.size,λx hx h1 h2=>(Hc aC).trans (h.block x hx h1 h2)⟩
abbrev jW:Obj:=.cells #[.int .i64 0,.int .i64 0,.int .i64 0,.int .i64 0,.slice none 0 0,.slice none 0 0,.slice none 0 0,.slice none 0 0] 59
def zjm (lo i:Nat)(v:fM)(r:b7)(d:bT)(e:ByteArray)(w:aE)(h:eA w lo v r)(hd:r.recs[i]? =some d)(hn:r.recs.length<=100000)(J8:r.wait.length<=100000)(dQ:lo<=w.heap.size):
 fH aK 96 #[.agg (fS v r),.int .i64 (i:Int),.string e] w λx w'=>∃g c,x=.returned (.agg (fS {v with gW:=g,cW:=c} (lD r i e)))/\eA w' lo {v with gW:=g,cW:=c} (lD r i e)/\oK v w w'/\w.heap.size<=g:=by
 obtain⟨gb,eV⟩:=aU w.heap.size;have hl:=h.lts;have hi:=(kE.1 hd).1;obtain⟨O,hO⟩:=aU (.cells (fS v r) 59:tM);obtain⟨Z,hZ⟩:=aU (jW:tM);have gV:((w.alloc O).alloc Z).heap[gb]? =some (.cells (fS v r) 59):=by rw[hO,eV];exact dJ (lQ _ _) _
 have o5:((w.alloc O).alloc Z).heap[gb+1]? =some jW:=by rw[<-hZ];exact mV _ _ Xm
 have kC:=(h.alloc O).alloc Z;have T1:oK v w ((w.alloc O).alloc Z):=oK.of_below v (dS (dS (eF _ _) _) _);have Bp:=aD gV;have zc5:=aD o5;have lJ:=aD kC;have Ed:=aD T1;have HO:=aD hO;have HZ:=aD (show Z=.cells #[.int .i64 0,.int .i64 0,.int .i64 0,.int .i64 0,.slice none 0 0,.slice none 0 0,.slice none 0 0,.slice none 0 0] 59 from hZ);have fQ:=aD eV;have HD:=aD hd;clear hO hZ eV gV o5 kC T1 hd h;have i0:(0:Int)<=(i:Int):=aC;have i1:(i:Int)<(r.recs.length:Int):=aC
 go_enter Tryz.func96,Tryz.ntmps96
 go_upto_region 1 with fail
 rw[<-HO.o,<-HZ.o,<-fQ.o];obtain⟨W1,dG⟩:=aU ((w.alloc O).alloc Z);have eL:W1.heap.size=gb+2:=by rw[dG,fQ.o];simp
 rw[<-dG] at Bp zc5 lJ Ed⊢;have oY:=aD eL;have J3:gb≠v.gR:=by have:=fQ.o;omega
 have y9:gb≠v.gB:=by have:=fQ.o;omega
 have Pu:gb+1≠v.gR:=by have:=fQ.o;omega
 have zcq:gb+1≠v.gB:=by have:=fQ.o;omega
 clear dG eL;have k:=aJ Bp.o;obtain⟨c0,c1,c2,c3,c4,c5,c6⟩:=lJ.o.recAt HD.o;have fz:=λj=>lJ.o.rc.frozenAt j;have k3:=k 3;have k4:=k 4;have S1:=lJ.o.setR (λd=>{d with t:=r.clk}) HD.o (j:=5) aH zsq rfl;have l9:=aD S1;clear S1 k
 go_upto_region 2 with fail
 obtain⟨W2,qM⟩:=aU (W1.setCell ⟨v.gR,i*7+5,none⟩ (.int .i64 r.clk));rw[<-qM] at l9⊢;have z8:(r.recs.modify i λd=>{d with t:=r.clk})[i]? =some {d with t:=r.clk}:=by rw[zD];simp[HD.o]
 have zec:=aD z8;have zuZ:=aD (l9.o.2.blk Bp.o J3 y9);have zyS:=aD (l9.o.2.blk zc5.o Pu zcq);clear qM c0 c1 c2 c3 c4 c5 c6 fz k3 k4 z8;have k4:=aJ zuZ.o 4;obtain⟨c0,c1,c2,c3,c4,c5,c6⟩:=l9.o.1.recAt zec.o;have fz:=λj=>l9.o.1.rc.frozenAt j;have S2:=l9.o.1.setR (λd=>{d with e:=e}) zec.o (j:=6) aH zt7 rfl;rw[zel] at S2;have sY:=aD S2;clear S2
 go_upto_region 3 with fail
 obtain⟨W3,sD⟩:=aU (W2.setCell ⟨v.gR,i*7+6,none⟩ (.string e));rw[<-sD] at sY⊢;have zsK:(r.recs.modify i λd=>{d with t:=r.clk,e:=e})[i]? =some {d with t:=r.clk,e:=e}:=by rw[zD];simp[HD.o]
 have zHH:=aD zsK;have Vp:=aD (Ed.o.same (l9.o.2.same sY.o.2));have zaM:=sY.o.2.blk zuZ.o J3 y9;have zoh:=aD (sY.o.2.blk zyS.o Pu zcq);have Qk:=aD (show eA W3 lo v {r with recs:=Ki r i e} from sY.o.1);have zjy:gb+2<=W3.heap.size:=by have:=Vp.o.size;have:=oY.o;have:=l9.o.2.size;have:=sY.o.2.size;omega
 clear sD c0 c1 c2 c3 c4 c5 c6 fz k4 zsK;have k4:=aJ zaM 4;have k5:=aJ zaM 5;have fz:=eJ zaM;obtain⟨c0,-,-,-,-,-,-⟩:=sY.o.1.recAt zHH.o;have zEm:=aD zaM;have Kv:=Qk.o.slcW;have Ut:=aD Kv;clear zaM Kv
 go_cut [] from 20 to 29 (λwx=>∃g c,wx.heap[gb]? =some (G4 {v with gW:=g,cW:=c} (lD r i e))/\wx.heap[gb+1]? =some jW/\eA wx lo {v with gW:=g,cW:=c} (lD r i e)/\oK v w wx/\w.heap.size<=g/\gb+1<g)
 case first=>
  go_region_with (go_at_call 95;refine(zg8 lo W3.heap.size r.wait.length v.cW (some ⟨v.gW,0,none⟩) r.wait d.c W3.drew (Ut.o.keep (aX _) (λ_ _ _ _=>rfl)) J8).mono ?_;rintro x w4 ⟨_,rfl,g,cp,rfl,cV,b4⟩;have k0:=(eD b4 (J4 zEm.o)).1;have k5:=aJ k0 5;have fz:=eJ k0;have z4:=fY k0;have zdX:=aD cV;clear cV)
  all_goals
   go_wp2_with fail
   go_meet
   have qD:=Ui HD.o;have Pk:=Vp.o.size;have hg:W3.heap.size<=g:=(zdX.o.lt g rfl).1;have zA:∀b,b<W3.heap.size->b≠gb->(w4.setCell ⟨gb,5,none⟩ (.slice (some ⟨g,0,none⟩) (dY r.wait d.c).length cp)).heap[b]? =W3.heap[b]? :=λb hb aT=>(eH w4 _ _ b aT).trans (b4.block b hb);have l3:=Qk.o.lts;have eV:=fQ.o;refine⟨g,cp,?_,(zA _ (fY zoh.o) aC).trans zoh.o,?_,⟨b4.os.trans Vp.o.os,b4.tape.trans Vp.o.tape,b4.output.trans Vp.o.output,?_,λb hb h1 h2=>(zA b aC aC).trans (Vp.o.block b hb h1 h2)⟩,aC,aC⟩
   .rw[nJ k0,<-qD]
    rw[zzO v r i g cp e]
   .have a:=Qk.o.ap
    have hk:∀b,b<w.heap.size->W3.heap.size<=W3.heap.size:=λ_ _=>aX _;have row:(w4.setCell ⟨gb,5,none⟩ (.slice (some ⟨g,0,none⟩) (dY r.wait d.c).length cp)).ownsRow W3.heap.size 100 2 (.slice (some ⟨g,0,none⟩) (dY r.wait d.c).length cp) (dY r.wait d.c).length (bF (dY r.wait d.c)):=Cj zdX.o (eH w4 _ _ g (by show g≠gb;omega));have zjk:∀{E s n:Nat} {A:Nat} {c:Nat} {xs:List aF},A<gb->W3.ownsRow lo E s (.slice (some ⟨A,0,none⟩) n c) n xs->(w4.setCell ⟨gb,5,none⟩ (.slice (some ⟨g,0,none⟩) (dY r.wait d.c).length cp)).ownsRow lo E s (.slice (some ⟨A,0,none⟩) n c) n xs:=λ{E s n A c xs} hA h=>Cj h (zA A (h.lt A rfl).2 aC);have l0:=hl;refine⟨zjk (by show v.gR<gb;omega) Qk.o.rc,?_,zjk (by show v.gB<gb;omega) Qk.o.bk,zjk (by show v.gL<gb;omega) Qk.o.lg,by simp only at*;omega⟩;have:=zeH row (base':=lo) aC;rw[<-qD] at this⊢;exact this
   .rw[sN];have:=b4.size;omega
 case rest=>
  obtain⟨g,c,kb,kr,hR,hT,hg,zIQ⟩:=hcut;have zyT:g<gb\/gb+1<g:=.inr zIQ;have k:=aJ kb;obtain⟨k0,k1,k2,k3,k4,k5,k6,k7⟩:=eR k;have q:=aJ kr;obtain⟨q0,q1,q2,q3,q4,q5,q6,q7⟩:=eR q;have qf:=eJ kr;have HR:=aD hR;have HT:=aD hT;have HG:=aD hg;have jS:=aD kr;clear hR hT hg kb kr k q;go_wp2;have er:=aJ (zdb (a0:=.int .i64 (lD r i e).o.ln) (a1:=.int .i64 (lD r i e).o.op) (a2:=.int .i64 (lD r i e).o.pt) (a3:=.int .i64 (lD r i e).clk) (a4:=.slice (some ⟨v.gR,0,none⟩) (lD r i e).recs.length v.cR) (a5:=.slice (some ⟨g,0,none⟩) (lD r i e).wait.length c) (a6:=.slice (some ⟨v.gB,0,none⟩) (lD r i e).back.length v.cB) (a7:=.slice (some ⟨v.gL,0,none⟩) (lD r i e).log.length v.cL) jS.o);have l:=HR.o.lts;have eV:=fQ.o;have zkk:=HG.o;have yQ:=hl;have a:=HR.o.ap;refine bodyPost_ret (v:=.agg (fS {v with gW:=g,cW:=c} (lD r i e))) ?_ rfl ⟨g,c,rfl,HR.o.set8 ?_,HT.o.set8 aC,zkk⟩
  .unfold gX at er
   simp[results,Tryz.results96,go_sem,er]
  .have zm1:g<gb\/gb+1<g:=zyT
   simp only;omega
structure gP (w0 w:aE)(lo gb k:Nat)(v0 v:fM)(r:b7):Prop where
 ok:eA w lo v r
 turn:oK v0 w0 w
 moved:wS gb v0 v
 base:gb=w0.heap.size
 blk:w.heap[gb]? =some (.cells (fS v r) 59)
 size:gb+k<=w.heap.size
 kpos:0<k
 aR:v.gR<gb\/gb+k<=v.gR
 aW:v.gW<gb\/gb+k<=v.gW
 aB:v.gB<gb\/gb+k<=v.gB
 aL:v.gL<gb\/gb+k<=v.gL
 lob:lo<=gb
section
variable {w0 w w':aE}{lo gb k:Nat}{v0 v:fM}{r:b7}
def gP.keep (h:gP w0 w lo gb k v0 v r)(b:bR w.heap.size w w'):gP w0 w' lo gb k v0 v r:=
 ⟨h.ok.below b,h.turn.same (oK.of_below v0 b),h.moved,h.base,(b.block _ (fY h.blk)).trans h.blk,eG h.size b.size,h.kpos,h.aR,h.aW,h.aB,h.aL,h.lob⟩
def gP.alloc (h:gP w0 w lo gb k v0 v r)(o:tM):gP w0 (w.alloc o) lo gb k v0 v r:=h.keep (dS (eF _ _) o)
def gP.drew (h:gP w0 w lo gb k v0 v r):gP w0 w.drew lo gb k v0 v r:=h.keep ⟨rfl,rfl,rfl,aX _,λ_ _=>rfl⟩
def room_R (v:fM)(r:b7)(g c:Nat)(xs:List bT):(fS v r).setIfInBounds 4 (.slice (some ⟨g,0,none⟩) xs.length c)=fS {v with gR:=g,cR:=c} {r with recs:=xs}:=rfl
def room_W (v:fM)(r:b7)(g c:Nat)(xs:List bJ):(fS v r).setIfInBounds 5 (.slice (some ⟨g,0,none⟩) xs.length c)=fS {v with gW:=g,cW:=c} {r with wait:=xs}:=rfl
def zp4 (v:fM)(r:b7)(g c:Nat)(xs:List bJ):(fS v r).setIfInBounds 6 (.slice (some ⟨g,0,none⟩) xs.length c)=fS {v with gB:=g,cB:=c} {r with back:=xs}:=rfl
def room_L (v:fM)(r:b7)(g c:Nat)(xs:List (List UInt8)):(fS v r).setIfInBounds 7 (.slice (some ⟨g,0,none⟩) xs.length c)=fS {v with gL:=g,cL:=c} {r with log:=xs}:=rfl
def zE {N g:Nat}{o:tM}(hb:w.grownBy w' (some g))(hN:w.heap[N]? =some o)(aT:N≠g):w'.heap[N]? =some o/\N<w'.heap.size:=
 ⟨(hb.block N (fY hN) (by simp;exact aT)).trans hN,lC (fY hN) hb.size⟩
variable {u:aF}
def zq6 {row:Nat}{b i:Nat}(hg:w.grownBy w' (some row)){x:Nat}(hx:x<w.heap.size)(h1:x≠row)(h2:x≠b):(w'.setCell ⟨b,i,none⟩ u).heap[x]? =w.heap[x]? :=
 (eH w' _ _ x h2).trans (hg.block x hx (by simp;exact h1))
def eA.setCell {b i:Nat}(h:eA w lo v r)(hb:b≠v.gR/\b≠v.gW/\b≠v.gB/\b≠v.gL):eA (w.setCell ⟨b,i,none⟩ u) lo v r:=
 ⟨Cj h.rc (eH w _ _ _ (Ne.symm hb.1)),Cj h.wt (eH w _ _ _ (Ne.symm hb.2.1)),Cj h.bk (eH w _ _ _ (Ne.symm hb.2.2.1)),Cj h.lg (eH w _ _ _ (Ne.symm hb.2.2.2)),h.ap⟩
def gP.appB {m g c:Nat}{x:bJ}(h:gP w0 w lo gb k v0 v r)(hg:w.grownBy w' (some v.gB))(ho:w'.ownsRow lo 100 2 (.slice (some ⟨g,0,none⟩) m c) m (bF r.back++x.cells))(hm:m=r.back.length+1)(hw:g=v.gB\/g=w.heap.size):
 gP w0 (w'.setCell ⟨gb,6,none⟩ (.slice (some ⟨g,0,none⟩) m c)) lo gb k v0 {v with gB:=g,cB:=c} {r with back:=r.back++[x]}:=by
 have hk:=h.ok.appB hg ho hm aC;have sz:=h.size;have kp:=h.kpos;have aR:=h.aR;have aW:=h.aW;have aB:=h.aB;have aL:=h.aL;have l:=h.ok.lts;have hs:=hg.size;have M3:=h.base;have kb:=(zE hg h.blk aC).1;have zc4:g≠gb:=aC;refine⟨hk.setCell (by refine⟨?_,?_,?_,?_⟩<;>(simp only;omega)),?_,⟨h.moved.r,h.moved.w,?_,h.moved.l⟩,h.base,?_,?_,kp,aR,aW,?_,aL,h.lob⟩
 .have t:=h.turn
  have mb:=h.moved.b;refine⟨hg.os.trans t.os,hg.tape.trans t.tape,hg.output.trans t.output,?_,λb hb h1 h2=>?_⟩
  .rw[sN];have:=t.size;omega
  .exact(zq6 hg zgf aC aC).trans (t.block b hb h1 h2)
 .have:=h.moved.b
  simp only;omega
 .rw[nJ kb]
  have e:=zp4 v r g c (r.back++[x]);rw[hm];simp only[gM,qA,rY] at e;exact congrArg (λa=>some (zwc a 59)) e
 .rw[sN];omega
 .simp only;omega
def gP.appR {m g c:Nat}{x:bT}(h:gP w0 w lo gb k v0 v r)(hg:w.grownBy w' (some v.gR))(ho:w'.ownsRow lo 50 7 (.slice (some ⟨g,0,none⟩) m c) m (recs r.recs++x.cells))(hm:m=r.recs.length+1)(hw:g=v.gR\/g=w.heap.size):
 gP w0 (w'.setCell ⟨gb,4,none⟩ (.slice (some ⟨g,0,none⟩) m c)) lo gb k v0 {v with gR:=g,cR:=c} {r with recs:=r.recs++[x]}:=by
 have hk:=h.ok.appR hg ho hm aC;have sz:=h.size;have kp:=h.kpos;have aR:=h.aR;have aW:=h.aW;have aB:=h.aB;have aL:=h.aL;have l:=h.ok.lts;have hs:=hg.size;have M3:=h.base;have kb:=(zE hg h.blk aC).1;have zc4:g≠gb:=aC;refine⟨hk.setCell (by refine⟨?_,?_,?_,?_⟩<;>(simp only;omega)),?_,⟨?_,h.moved.w,h.moved.b,h.moved.l⟩,h.base,?_,?_,kp,?_,aW,aB,aL,h.lob⟩
 .have t:=h.turn
  have mb:=h.moved.r;refine⟨hg.os.trans t.os,hg.tape.trans t.tape,hg.output.trans t.output,?_,λb hb h1 h2=>?_⟩
  .rw[sN];have:=t.size;omega
  .exact(zq6 hg zgf aC aC).trans (t.block b hb h1 h2)
 .have:=h.moved.r
  simp only;omega
 .rw[nJ kb]
  have e:=room_R v r g c (r.recs++[x]);rw[hm];simp only[gM,qA,rY] at e;exact congrArg (λa=>some (zwc a 59)) e
 .rw[sN];omega
 .simp only;omega
variable {xs:List bJ}
def gP.setW {g c n:Nat}(h:gP w0 w lo gb k v0 v r)(b:bR n w w')(ho:w'.ownsRow n 100 2 (.slice (some ⟨g,0,none⟩) xs.length c) xs.length (bF xs))(hn:n=w.heap.size):
 gP w0 (w'.setCell ⟨gb,5,none⟩ (.slice (some ⟨g,0,none⟩) xs.length c)) lo gb k v0 {v with gW:=g,cW:=c} {r with wait:=xs}:=by
 subst hn;have hg:=(ho.lt g rfl).1;have sz:=h.size;have l:=h.ok.lts;have M3:=h.base;have lob:=h.lob;have hk:=h.ok.newW (w':=w') (λx hx=>b.block x hx) (zeH ho aC) rfl hg;have kp:=h.kpos;have aR:=h.aR;have aW:=h.aW;have aB:=h.aB;have aL:=h.aL;have hs:=b.size;have kb:=(eD b h.blk).1;refine⟨hk.setCell (by refine⟨?_,?_,?_,?_⟩<;>(simp only;omega)),?_,⟨h.moved.r,.inr Lz,h.moved.b,h.moved.l⟩,h.base,?_,?_,kp,aR,.inr Lz,aB,aL,h.lob⟩
 .have t:=h.turn
  refine⟨b.os.trans t.os,b.tape.trans t.tape,b.output.trans t.output,?_,λy hy h1 h2=>?_⟩
  .rw[sN];have:=t.size;omega
  .exact((eH w' _ _ y zjc).trans (b.block y zgf)).trans (t.block y hy h1 h2)
 .rw[nJ kb]
  rw[room_W v r g c xs]
 .rw[sN];omega
def gP.setB {g c n:Nat}(h:gP w0 w lo gb k v0 v r)(b:bR n w w')(ho:w'.ownsRow n 100 2 (.slice (some ⟨g,0,none⟩) xs.length c) xs.length (bF xs))(hn:n=w.heap.size):
 gP w0 (w'.setCell ⟨gb,6,none⟩ (.slice (some ⟨g,0,none⟩) xs.length c)) lo gb k v0 {v with gB:=g,cB:=c} {r with back:=xs}:=by
 subst hn;have hg:=(ho.lt g rfl).1;have sz:=h.size;have l:=h.ok.lts;have M3:=h.base;have lob:=h.lob;have hk:=h.ok.newB (w':=w') (λx hx=>b.block x hx) (zeH ho aC) rfl hg;have kp:=h.kpos;have aR:=h.aR;have aW:=h.aW;have aB:=h.aB;have aL:=h.aL;have hs:=b.size;have kb:=(eD b h.blk).1;refine⟨hk.setCell (by refine⟨?_,?_,?_,?_⟩<;>(simp only;omega)),?_,⟨h.moved.r,h.moved.w,.inr Lz,h.moved.l⟩,h.base,?_,?_,kp,aR,aW,.inr Lz,aL,h.lob⟩
 .have t:=h.turn
  refine⟨b.os.trans t.os,b.tape.trans t.tape,b.output.trans t.output,?_,λy hy h1 h2=>?_⟩
  .rw[sN];have:=t.size;omega
  .exact((eH w' _ _ y zjc).trans (b.block y zgf)).trans (t.block y hy h1 h2)
 .rw[nJ kb]
  rw[zp4 v r g c xs]
 .rw[sN];omega
def gP.setR {i j:Nat}{d:bT}(f:bT->bT)(h:gP w0 w lo gb k v0 v r)(hd:r.recs[i]? =some d)(hj:j<7)(hs:∀k,k<7->k≠j->(f d).cells[k]? =d.cells[k]?)(hv:(f d).cells[j]? =some u):
 gP w0 (w.setCell ⟨v.gR,i*7+j,none⟩ u) lo gb k v0 v {r with recs:=r.recs.modify i f}:=by
 obtain⟨h1,h2⟩:=h.ok.setR f hd hj hs hv;have l:=h.ok.lts;have M3:=h.base;have mr:=h.moved.r;have kp:=h.kpos;have aR:=h.aR;have sz:=h.size;refine⟨h1,?_,h.moved,h.base,?_,by rw[sN];exact h.size,h.kpos,h.aR,h.aW,h.aB,h.aL,h.lob⟩
 .have t:=h.turn
  refine⟨t.os,t.tape,t.output,by rw[sN];exact t.size,λy hy e1 e2=>?_⟩;exact(eH w _ _ y (by show y≠v.gR;omega)).trans (t.block y hy e1 e2)
 .have e:(w.setCell ⟨v.gR,i*7+j,none⟩ u).heap[gb]? =w.heap[gb]? :=eH w _ _ gb (by show gb≠v.gR;omega)
  rw[e,h.blk];simp only[fS,fM.sR,Hk]
def gP.turned {n:Nat}{v':fM}{r':b7}(h:gP w0 w lo gb k v0 v r)(ho:eA w' lo v' r')(t:oK v w w')(m:wS n v v')(hn:n=w.heap.size):
 eA w' lo v' r'/\oK v0 w0 w'/\wS gb v0 v'/\w'.heap[gb]? =some (.cells (fS v r) 59):=by
 have M3:=h.base;have sz:=h.size;have kp:=h.kpos;have aR:=h.aR;have aB:=h.aB;exact⟨ho,h.turn.trans t h.moved aC,h.moved.trans m aC,t.blk h.blk aC aC⟩
def gP.done {b:Nat}{a0 a1 a2 a3 a4 a5 a6 a7:aF}(h:gP w0 w lo gb k v0 v r)(hb:gb<=b/\b<gb+k):eA (gX w b a0 a1 a2 a3 a4 a5 a6 a7) lo v r/\oK v0 w0 (gX w b a0 a1 a2 a3 a4 a5 a6 a7)/\wS w0.heap.size v0 v:=by
 have aR:=h.aR;have aW:=h.aW;have aB:=h.aB;have aL:=h.aL;have M3:=h.base;exact⟨h.ok.set8 aC,h.turn.set8 aC,M3▸h.moved⟩
def Aa {a:bL}{v:aF}(h:w.cell? a=some v)(o:tM):(w.alloc o).cell? a=some v:=(aE.cell?_alloc_some w a o (by rw[h];rfl)).trans h
end
def tD {z0 z1 z2 z3 z4 z5 z6 z7:aF}(v:fM)(r:b7)(h:w.heap[b]? =some (.cells #[z0,z1,z2,z3,z4,z5,z6,z7] T)):
 (gX w b (.int .i64 r.o.ln) (.int .i64 r.o.op) (.int .i64 r.o.pt) (.int .i64 r.clk) (v.sR r) (v.sW r) (v.sB r) (v.sL r)).heap[b]? =some (.cells #[.int .i64 r.o.ln,.int .i64 r.o.op,.int .i64 r.o.pt,.int .i64 r.clk,v.sR r,v.sW r,v.sB r,v.sL r] T):=zdb h
def ze2 (h:eA w lo v r)(dQ:lo<=w.heap.size):∃(gb:Nat) (O Z:tM),qC (gb=w.heap.size)/\qC (O=.cells (fS v r) 59)/\qC (Z=.cells #[.int .i64 0,.int .i64 0,.int .i64 0,.int .i64 0,.slice none 0 0,.slice none 0 0,.slice none 0 0,.slice none 0 0] 59)/\
 qC (gP w ((w.alloc O).alloc Z) lo gb 2 v v r)/\qC (((w.alloc O).alloc Z).heap[gb+1]? =some jW)/\qC (((w.alloc O).alloc Z).heap.size=gb+2)/\qC (v.gR<gb/\v.gW<gb/\v.gB<gb/\v.gL<gb):=by
 obtain⟨gb,eV⟩:=aU w.heap.size;have hl:=h.lts;obtain⟨O,hO⟩:=aU (.cells (fS v r) 59:tM);obtain⟨Z,hZ⟩:=aU (jW:tM);have gV:((w.alloc O).alloc Z).heap[gb]? =some (G4 v r):=by rw[hO,eV];exact dJ (lQ _ _) _
 have o5:((w.alloc O).alloc Z).heap[gb+1]? =some jW:=by rw[<-hZ];exact mV _ _ Xm
 have eL:((w.alloc O).alloc Z).heap.size=gb+2:=by rw[eV];simp
 have eW:=aD (show gP w ((w.alloc O).alloc Z) lo gb 2 v v r from⟨(h.alloc O).alloc Z,oK.of_below v (dS (dS (eF _ _) _) _),wS.refl _ _,eV,gV,by rw[eL];exact aX _,aC,.inl aC,.inl aC,.inl aC,.inl aC,aC⟩);have oY:=aD eL;have jS:=aD o5;have HO:=aD hO;have HZ:=aD (show Z=.cells #[.int .i64 0,.int .i64 0,.int .i64 0,.int .i64 0,.slice none 0 0,.slice none 0 0,.slice none 0 0,.slice none 0 0] 59 from hZ);have fQ:=aD eV;have HL:=aD (show v.gR<gb/\v.gW<gb/\v.gB<gb/\v.gL<gb by omega);exact⟨gb,O,Z,fQ,HO,HZ,eW,jS,oY,HL⟩
def zIU {u:Nat}(h:9<u):Iw u=Iw (u/10)++[U4 (48+u%10)]:=by
 rw[Iw,dif_neg aC]
def zaC (k:Nat)(hk:k<=100000000)(w:aE):
 fH aK 94 #[.int .i64 k] w λe w'=>e=.returned (.string ⟨(K7 k).toArray⟩)/\bR w.heap.size w w':=by
 have hI:=aD (Lib.itoa_nonneg k)
 go_enter Tryz.func94,Tryz.ntmps94
 go_wp2
 go_loopw [0,3] (λa s wr=>∃(u:Nat) (l:List UInt8),a=.int .i64 u/\s=.string ⟨l.toArray⟩/\u<=100000000/\Iw u++l=Iw k/\bR w.heap.size w wr) (λa _ _=>(intOf a).toNat)
 case atStart=>exact⟨k,[],rfl,rfl,hk,List.append_nil _,eF _ _⟩
 case round=>
  obtain⟨u,l,rfl,rfl,hu,hl,B⟩:=hrel;have HL:=aD hl;have Ea:l.length<=20:=by have:=congrArg Wm HL.o;rw[gM] at this;have:=M2 (k:=k) aC;omega
  by_cases aN:9<u
  .have Z0:=cv1 wr (48+u%10) aC
   rw[show((48+u%10:Nat):Int)=48+(u:Int)%10 by omega] at Z0;have HD:=aD (zIU aN);go_wp2;go_roundw
   case rel=>exact⟨u/10,U4 (48+u%10)::l,by first|rfl|(congr 1;omega),by rw[I9];simp,aC,by rw[<-HL.o,HD.o];simp,dS B _⟩
   case measure=>simp[intOf];omega
  .have Z0:=cv1 wr (48+u) aC
   rw[show((48+u:Nat):Int)=48+(u:Int) by omega] at Z0;have HT:=aD (show(⟨[U4 (48+u)].toArray⟩:ByteArray)++⟨l.toArray⟩=⟨(K7 k).toArray⟩ by rw[I9,hI.o,<-HL.o,zrS aC];simp);go_wp2;go_ret;exact⟨congrArg (λx=>znC (aF.string x)) (by rw[<-HT.o];simp),dS B _⟩
end Go.Proofs.YtfcjiloojkjaeaaGreatDoor
namespace Go.Tt
abbrev Pr:=Nat->Nat->Prop
def Pr.le (R R':Pr):Prop:=∀a b,R a b->R' a b
def Pr.le.refl (R:Pr):R.le R:=λ_ _ h=>h
variable {R R':Pr}
def Pr.le.trans {Ot:Pr}(h:R.le R')(h':R'.le Ot):R.le Ot:=λa b x=>h' a b (h a b x)
def Pr.add (R:Pr)(n n':Nat):Pr:=λa b=>R a b\/(a=n/\b=n')
def Pr.le_add (R:Pr)(n n':Nat):R.le (R.add n n'):=λ_ _ h=>.inl h
inductive fU (R:Pr):bL->bL->Prop
 |mk {b b' o:Nat} {s:Option Nat}:R b b'->fU R ⟨b,o,s⟩ ⟨b',o,s⟩
inductive wU (R:Pr):Option bL->Option bL->Prop
 |none:wU R none none
 |some {a a':bL}:fU R a a'->wU R (some a) (some a')
inductive Eb (R:Pr):Option Nat->Option Nat->Prop
 |none:Eb R none none
 |some {a a':Nat}:R a a'->Eb R (some a) (some a')
def Pr.or (R K:Pr):Pr:=λa b=>R a b\/K a b
variable {K:Pr}
def Pr.or_mono (h:R.le R'):(R.or K).le (R'.or K):=λa b x=>x.imp (h a b) id
def HidV:aF->Prop
 | .agg _| .tuple _| .bool _| .nilIface=>False
 |_=>True
inductive VR (S:aO->Prop)(K R:Pr):aF->aF->Prop
 |bool (b:Bool):VR S K R (.bool b) (.bool b)
 |int (k:Ez) (n:Int):VR S K R (.int k n) (.int k n)
 |string (s:ByteArray):VR S K R (.string s) (.string s)
 |nilFunc:VR S K R .nilFunc .nilFunc
 |nilIface:VR S K R .nilIface .nilIface
 |pointer {a a':Option bL}:wU R a a'->VR S K R (.pointer a) (.pointer a')
 |slice {a a':Option bL} {n c:Nat}:wU R a a'->VR S K R (.slice a n c) (.slice a' n c)
 |map {a a':Option Nat}:Eb R a a'->VR S K R (.map a) (.map a')
 |chan {a a':Option Nat}:Eb (R.or K) a a'->VR S K R (.chan a) (.chan a')
 |func {f:aO} {xs bY ys Yi:Array aF}:S f->xs.size=bY.size->(∀(i:Nat) (v v':aF),xs[i]? =some v->bY[i]? =some v'->VR S K R v v')->
  ys.size=Yi.size->(∀(i:Nat) (v v':aF),ys[i]? =some v->Yi[i]? =some v'->VR S K R v v')->VR S K R (.func (.func f) xs ys) (.func (.func f) bY Yi)
 |iface {t:aM} {v v':aF}:VR S K R v v'->VR S K R (.iface t v) (.iface t v')
 |agg {xs bY:Array aF}:xs.size=bY.size->(∀(i:Nat) (v v':aF),xs[i]? =some v->bY[i]? =some v'->VR S K R v v')->VR S K R (.agg xs) (.agg bY)
 |tuple {xs bY:Array aF}:xs.size=bY.size->(∀(i:Nat) (v v':aF),xs[i]? =some v->bY[i]? =some v'->VR S K R v v')->VR S K R (.tuple xs) (.tuple bY)
 |junk {v':aF}:HidV v'->VR S K R .nilFunc v'
def bK (S:aO->Prop)(K R:Pr)(xs bY:Array aF):Prop:=xs.size=bY.size/\∀(i:Nat) (v v':aF),xs[i]? =some v->bY[i]? =some v'->VR S K R v v'
section
variable {S:aO->Prop}{K R R':Pr}
def fU.mono (h:R.le R'){a a':bL}(x:fU R a a'):fU R' a a':=by cases x with|mk x=>exact .mk (h _ _ x)
def wU.mono (h:R.le R'){a a':Option bL}(x:wU R a a'):wU R' a a':=by cases x with|none=>exact .none|some x=>exact .some (x.mono h)
def Eb.mono (h:R.le R'){a a':Option Nat}(x:Eb R a a'):Eb R' a a':=by cases x with|none=>exact .none|some x=>exact .some (h _ _ x)
variable {v v':aF}
def VR.mono (h:R.le R')(x:VR S K R v v'):VR S K R' v v':=by
 induction x with
 |bool b=>exact .bool b
 |int k n=>exact .int k n
 |string s=>exact .string s
 |nilFunc=>exact .nilFunc
 |nilIface=>exact .nilIface
 |pointer x=>exact .pointer (x.mono h)
 |slice x=>exact .slice (x.mono h)
 |map x=>exact .map (x.mono h)
 |chan x=>exact .chan (x.mono (Pr.or_mono h))
 |func s e1 _ e2 _ i1 i2=>exact .func s e1 i1 e2 i2
 |iface _ ih=>exact .iface ih
 |agg e _ ih=>exact .agg e ih
 |tuple e _ ih=>exact .tuple e ih
 |junk h=>exact .junk h
variable {xs bY:Array aF}
def bK.mono (h:R.le R')(x:bK S K R xs bY):bK S K R' xs bY:=⟨x.1,λi v v' h1 h2=>(x.2 i v v' h1 h2).mono h⟩
variable {i:Nat}
def bK.get (x:bK S K R xs bY)(h:xs[i]? =some v):∃v',bY[i]? =some v'/\VR S K R v v':=by
 have hi:i<bY.size:=by rw[<-x.1];exact(dO.1 h).1
 exact⟨bY[i],mK hi,x.2 i _ _ h (mK hi)⟩
def bK.none (x:bK S K R xs bY)(h:xs[i]? =none):bY[i]? =none:=by
 rw[zxv] at h⊢;rw[<-x.1];exact h
def bK.getD (x:bK S K R xs bY)(i:Nat){d d':aF}(hd:VR S K R d d'):VR S K R (xs.getD i d) (bY.getD i d'):=by
 rw[tZ,tZ]
 cases h:xs[i]? with
 |none=>rw[x.none h];exact hd
 |some v=>obtain⟨v',h',hv⟩:=x.get h;rw[h'];exact hv
def bK.set (x:bK S K R xs bY)(i:Nat)(hv:VR S K R v v'):bK S K R (xs.setIfInBounds i v) (bY.setIfInBounds i v'):=by
 refine⟨by simp[x.1],λj u u' h h'=>?_⟩;by_cases e:i=j
 .subst e
  rw[Array.getElem?_setIfInBounds] at h h';simp only[if_true] at h h';split at h<;>split at h'<;>simp_all
 .rw[jQ e] at h h'
  exact x.2 j u u' h h'
def bK.push (x:bK S K R xs bY)(hv:VR S K R v v'):bK S K R (xs.push v) (bY.push v'):=by
 refine⟨by simp[x.1],λj u u' h h'=>?_⟩;rw[Wa] at h h';rw[<-x.1] at h';split at h
 .rename_i e;rw[if_pos e] at h';injection h with h;injection h' with h';subst h h';exact hv
 .rename_i e;rw[if_neg e] at h';exact x.2 j u u' h h'
def bK.append {ys Yi:Array aF}(x:bK S K R xs bY)(y:bK S K R ys Yi):bK S K R (xs++ys) (bY++Yi):=by
 refine⟨by simp[x.1,y.1],λj u u' h h'=>?_⟩;rw[Array.getElem?_append] at h h';rw[<-x.1] at h';split at h
 .rename_i e;rw[if_pos e] at h';exact x.2 j u u' h h'
 .rename_i e;rw[if_neg e] at h';exact y.2 _ u u' h h'
def bK.empty:bK S K R #[] #[]:=⟨rfl,λi v v' h=>by simp at h⟩
def bK.one (h:VR S K R v v'):bK S K R #[v] #[v']:=bK.empty.push h
def bK.extract (x:bK S K R xs bY)(i j:Nat):bK S K R (xs.extract i j) (bY.extract i j):=by
 refine⟨by simp[x.1],λk u u' h h'=>?_⟩;rw[Array.getElem?_extract] at h h';split at h
 .rename_i e;rw[<-x.1,if_pos e] at h';exact x.2 _ u u' h h'
 .cases h
def VR.agg' (x:bK S K R xs bY):VR S K R (.agg xs) (.agg bY):=.agg x.1 x.2
def VR.tuple' (x:bK S K R xs bY):VR S K R (.tuple xs) (.tuple bY):=.tuple x.1 x.2
def VR.cells (x:VR S K R v v'):bK S K R v.cells v'.cells:=by
 cases x with
 |agg e h=>exact⟨e,h⟩
 |bool b=>exact .one (.bool b)
 |int k n=>exact .one (.int k n)
 |string s=>exact .one (.string s)
 |nilFunc=>exact .one .nilFunc
 |nilIface=>exact .one .nilIface
 |pointer x=>exact .one (.pointer x)
 |slice x=>exact .one (.slice x)
 |map x=>exact .one (.map x)
 |chan x=>exact .one (.chan x)
 |func s e1 h1 e2 h2=>exact .one (.func s e1 h1 e2 h2)
 |iface x=>exact .one (.iface x)
 |tuple e h=>exact .one (.tuple e h)
 |junk h=>
  have e:v'.cells=#[v']:=by cases v'<;>first|rfl|exact h.elim
  rw[e];exact .one (.junk h)
end
structure dL where
 c:bS
 fs:Array Func
 op:aO->Bool
 lw:aO->Bool
 gs:aO->Bool
 dy:Bool
abbrev dL.g (P:dL):Program:={P.c with funcs:=P.fs}
abbrev dL.underlying (P:dL)(t:aM):=P.c.underlying t
abbrev dL.info? (P:dL)(t:aM):=P.c.info? t
abbrev dL.globals (P:dL):=P.c.globals
def Ai (p:bS)(g:Nat):Bool:=match p.globals[g]? with|some x=>(match p.underlying x.type with|some (.array _ _)=>true|_=>false)|none=>false
structure Gp where
 n:Nat
 tab:Nat->Bool
abbrev oZ (p:bS):Gp:=⟨p.globals.size,Ai p⟩
abbrev dL.gp (P:dL):Gp:=oZ P.c
def dL.underlying_g (P:dL)(t:aM):P.g.underlying t=P.c.underlying t:=rfl
def dL.info_g (P:dL)(t:aM):P.g.info? t=P.c.info? t:=rfl
def dL.cells_g (P:dL)(t:aM):P.g.cellsOf t=P.c.cellsOf t:=rfl
def dL.bytes_g (P:dL)(t:aM):P.g.bytesOf t=P.c.bytesOf t:=rfl
def dL.depth_g (P:dL):P.g.depth=P.c.depth:=rfl
def dL.byteOfCell_g (P:dL):∀(d:Nat) (t:aM) (o:Nat),byteOfCell P.g d t o=byteOfCell P.c d t o:=by
 intro d
 induction d with
 |zero=>intro t o;rfl
 |succ d ih=>
  intro t o;unfold byteOfCell;rw[P.underlying_g];simp only[ih,P.cells_g,P.bytes_g];rfl
def dL.globals_g (P:dL):P.g.globals=P.c.globals:=rfl
inductive Cq (S:aO->Prop)(K R:Pr):o7->o7->Prop
 |mk {k k' v v':aF} {born:Nat}:VR S K R k k'->VR S K R v v'->Cq S K R ⟨k,v,born⟩ ⟨k',v',born⟩
def qH (S:aO->Prop)(K R:Pr)(es fA:Array o7):Prop:=es.size=fA.size/\∀(i:Nat) (e e':o7),es[i]? =some e->fA[i]? =some e'->Cq S K R e e'
def Jv (fz:Nat×Nat)(o:Nat):Prop:=fz.1<=o/\o<fz.2
inductive oI (S:aO->Prop)(K R:Pr):tM->tM->Prop
 |cells {c c':Array aF} {T:aM} {fz Ii:Nat×Nat}:bK S K R c c'->(∀o,Jv Ii o->Jv fz o)->oI S K R (.cells c T fz) (.cells c' T Ii)
 |map {es fA:Array o7} {cl:Nat}:qH S K R es fA->oI S K R (.map es cl) (.map fA cl)
 |chan {cap s r:Nat} {Jw zq7:Array aF} {closed tm:Bool}:bK S K R Jw zq7->oI S K R (.chan cap Jw closed s r tm) (.chan cap zq7 closed s r tm)
 |stringIter (s:ByteArray) (pos:Nat):oI S K R (.stringIter s pos) (.stringIter s pos)
 |number {a a':bL} {lost:Bool}:fU R a a'->oI S K R (.number a lost) (.number a' lost)
 |mapIter {m m':Option Nat} {since stepped:Nat} {seen:Array Nat}:Eb R m m'->oI S K R (.mapIter m since seen stepped) (.mapIter m' since seen stepped)
section
variable {S:aO->Prop}{K R R':Pr}
def Cq.mono (h:R.le R'){e e':o7}(x:Cq S K R e e'):Cq S K R' e e':=by cases x with|mk a b=>exact .mk (a.mono h) (b.mono h)
def qH.mono (h:R.le R'){e e':Array o7}(x:qH S K R e e'):qH S K R' e e':=⟨x.1,λi a b h1 h2=>(x.2 i a b h1 h2).mono h⟩
def oI.mono (h:R.le R'){o o':tM}(x:oI S K R o o'):oI S K R' o o':=by
 cases x with
 |cells a b=>exact .cells (a.mono h) b
 |map a=>exact .map (a.mono h)
 |chan a=>exact .chan (a.mono h)
 |stringIter s p=>exact .stringIter s p
 |number a=>exact .number (a.mono h)
 |mapIter a=>exact .mapIter (a.mono h)
end
def o9:Obj:=.cells #[] 0
structure tH (P:dL)(K R:Pr):Prop where
 inj:∀a b c,R.or K a b->R.or K a c->b=c
 inj':∀a b c,R.or K a c->R.or K b c->a=b
 low:∀a b,R a b->(a<P.globals.size↔b<P.globals.size)
 tb:∀g,Ai P.c g=true->R g g
structure Fresh (P:dL)(K R:Pr)(n n':Nat):Prop where
 l:∀b,¬R.or K n b
 r:∀a,¬R.or K a n'
 low:P.globals.size<=n/\P.globals.size<=n'
structure xV (P:dL)(K R R':Pr):Prop where
 le:R.le R'
 ok:tH P K R->tH P K R'
variable {P:dL}
def xV.refl (R:Pr):xV P K R R:=⟨.refl R,id⟩
def xV.trans {Ot:Pr}(h:xV P K R R')(h':xV P K R' Ot):xV P K R Ot:=⟨h.le.trans h'.le,λx=>h'.ok (h.ok x)⟩
def xV.add {n n':Nat}(f:Fresh P K R n n'):xV P K R (R.add n n'):=by
 refine⟨Pr.le_add R n n',λh=>⟨?_,?_,?_,λg hg=>.inl (h.tb g hg)⟩⟩
 .rintro a b c ((x|⟨rfl,rfl⟩)|x) ((y|⟨e,rfl⟩)|y)
  .exact h.inj a b c (.inl x) (.inl y)
  .exact absurd (.inl (e▸x)) (f.l _)
  .exact h.inj a b c (.inl x) (.inr y)
  .exact absurd (.inl y) (f.l _)
  .rfl
  .exact absurd (.inr y) (f.l _)
  .exact h.inj a b c (.inr x) (.inl y)
  .exact absurd (.inr (e▸x)) (f.l _)
  .exact h.inj a b c (.inr x) (.inr y)
 .rintro a b c ((x|⟨rfl,rfl⟩)|x) ((y|⟨rfl,e⟩)|y)
  .exact h.inj' a b c (.inl x) (.inl y)
  .exact absurd (.inl (e▸x)) (f.r _)
  .exact h.inj' a b c (.inl x) (.inr y)
  .exact absurd (.inl y) (f.r _)
  .rfl
  .exact absurd (.inr y) (f.r _)
  .exact h.inj' a b c (.inr x) (.inl y)
  .exact absurd (.inr (e▸x)) (f.r _)
  .exact h.inj' a b c (.inr x) (.inr y)
 .rintro a b (x|⟨rfl,rfl⟩)
  .exact h.low a b x
  .have:=f.low;omega
def Yg:Halt->Prop
 | .panic _| .stuck _=>True
 | .unsupported (.initOrder _)=>False
 | .unsupported _=>True
 |_=>False
def Cd (w:aE):Prop:=∀(b:Nat) (c:Array aF) (e:aM),w.heap[b]?≠some (.pending c e)
def fC (P:dL){α:Type}(s:cU α):Prop:=∀w,Cd w->∃h w',s.run P.g w=.halt h w'/\Yg h
variable {α:Type}{w:aE}
def fC.no {s:cU α}(h:fC P s)(hw:Cd w)(x:α)(w':aE):s.run P.g w≠ .ok x w':=by
 obtain⟨_,_,e,_⟩:=h w hw;rw[e];simp
variable {β:Type}
def fC.bind {s:cU α}(h:fC P s)(f:α->cU β):fC P (s.bind f):=by
 intro w hw;obtain⟨y,w1,e,ht⟩:=h w hw;exact⟨y,w1,by rw[rK,e];rfl,ht⟩
def Ig (P:dL)(S:aO->Prop)(K:Pr){α β:Type}(A:Pr->α->β->Prop):cU α->Pr->cU β->Prop
 | .pure a,R,s'=>∃b,s'=.pure b/\A R a b
 | .load m a k,R,s'=>m=.plain/\∃a' k',s'=.load .plain a' k'/\fU R a a'/\∀v v',VR S K R v v'->fC P (k v)\/Ig P S K A (k v) R (k' v')
 | .store m a v k,R,s'=>m=.plain/\∃a' v' k',s'=.store .plain a' v' k'/\fU R a a'/\VR S K R v v'/\(fC P k\/Ig P S K A k R k')
 | .new o k,R,s'=>∃o' k',s'=.new o' k'/\oI S K R o o'/\∀n n',Fresh P K R n n'->fC P (k n)\/Ig P S K A (k n) (R.add n n') (k' n')
 | .shape r k,R,s'=>∃r' k',s'=.shape r' k'/\R r r'/\∀x,fC P (k x)\/Ig P S K A (k x) R (k' x)
 | .freeze _ _ _,_,_=>False
 | .frozen a k,R,s'=>∃a' k',s'=.frozen a' k'/\∀x x',fC P (k x)\/Ig P S K A (k x) R (k' x')
 | .getObj r k,R,s'=>∃r' k',s'=.getObj r' k'/\R.or K r r'/\∀o o',oI S K R o o'->fC P (k o)\/Ig P S K A (k o) R (k' o')
 | .setObj r o k,R,s'=>∃r' o' k',s'=.setObj r' o' k'/\R.or K r r'/\oI S K R o o'/\(fC P k\/Ig P S K A k R k')
 | .choose q k,R,s'=>∃k',s'=.choose q k'/\∀n,fC P (k n)\/Ig P S K A (k n) R (k' n)
 | .sys _ _,_,_=>False
 | .program k,R,s'=>∃k',s'=.program k'/\(fC P (k P.g)\/Ig P S K A (k P.g) R (k' P.c))
 | .mark m k,R,s'=>m=.noRoom/\∃k',s'=.mark .noRoom k'/\(fC P k\/Ig P S K A k R k')
 | .halt _,_,_=>False
def aG (P:dL)(S:aO->Prop)(K:Pr){α β:Type}(A:Pr->α->β->Prop)(s:cU α)(R:Pr)(s':cU β):Prop:=fC P s\/Ig P S K A s R s'
section
variable {P:dL}{S:aO->Prop}{K:Pr}{α β γ δ:Type}{A:Pr->α->β->Prop}{B:Pr->γ->δ->Prop}
def aG.pure {R:Pr}{a:α}{b:β}(h:A R a b):aG P S K A (.pure a) R (.pure b):=.inr ⟨b,rfl,h⟩
def fC.halt {h:Halt}(ht:Yg h):fC P (.halt h:cU α):=λw _=>⟨h,w,rfl,ht⟩
def aG.bind {s:cU α}:∀{R:Pr} {s':cU β} {f:α->cU γ} {f':β->cU δ},aG P S K A s R s'->(∀R',xV P K R R'->∀a b,A R' a b->aG P S K B (f a) R' (f' b))->aG P S K B (s.bind f) R (s'.bind f'):=by
 induction s with
 |pure a=>
  rintro R s' f f' (hn|⟨b,rfl,h⟩) hf
  .exact .inl (hn.bind _)
  .exact hf R (.refl R) a b h
 |load m a k ih=>
  rintro R s' f f' (hn|⟨hm,a',k',rfl,ha,hk⟩) hf
  .exact .inl (hn.bind _)
  .exact .inr ⟨hm,a',_,rfl,ha,λv v' hv=>ih v (hk v v' hv) hf⟩
 |store m a v k ih=>
  rintro R s' f f' (hn|⟨hm,a',v',k',rfl,ha,hv,hk⟩) hf
  .exact .inl (hn.bind _)
  .exact .inr ⟨hm,a',v',_,rfl,ha,hv,ih hk hf⟩
 |new o k ih=>
  rintro R s' f f' (hn|⟨o',k',rfl,ho,hk⟩) hf
  .exact .inl (hn.bind _)
  .exact .inr ⟨o',_,rfl,ho,λn n' fP=>ih n (hk n n' fP) λR' hR a b h=>hf R' ((xV.add fP).trans hR) a b h⟩
 |shape r k ih=>
  rintro R s' f f' (hn|⟨r',k',rfl,hr,hk⟩) hf
  .exact .inl (hn.bind _)
  .exact .inr ⟨r',_,rfl,hr,λx=>ih x (hk x) hf⟩
 |freeze a n k ih=>
  rintro R s' f f' (hn|h) hf
  .exact .inl (hn.bind _)
  .exact h.elim
 |frozen a k ih=>
  rintro R s' f f' (hn|⟨r',k',rfl,hk⟩) hf
  .exact .inl (hn.bind _)
  .exact .inr ⟨r',_,rfl,λx x'=>ih x (hk x x') hf⟩
 |getObj r k ih=>
  rintro R s' f f' (hn|⟨r',k',rfl,hr,hk⟩) hf
  .exact .inl (hn.bind _)
  .exact .inr ⟨r',_,rfl,hr,λo o' ho=>ih o (hk o o' ho) hf⟩
 |setObj r o k ih=>
  rintro R s' f f' (hn|⟨r',o',k',rfl,hr,ho,hk⟩) hf
  .exact .inl (hn.bind _)
  .exact .inr ⟨r',o',_,rfl,hr,ho,ih hk hf⟩
 |choose q k ih=>
  rintro R s' f f' (hn|⟨k',rfl,hk⟩) hf
  .exact .inl (hn.bind _)
  .exact .inr ⟨_,rfl,λn=>ih n (hk n) hf⟩
 |sys c k ih=>
  rintro R s' f f' (hn|h) hf
  .exact .inl (hn.bind _)
  .exact h.elim
 |program k ih=>
  rintro R s' f f' (hn|⟨k',rfl,hk⟩) hf
  .exact .inl (hn.bind _)
  .exact .inr ⟨_,rfl,ih P.g hk hf⟩
 |mark m k ih=>
  rintro R s' f f' (hn|⟨rfl,k',rfl,hk⟩) hf
  .exact .inl (hn.bind _)
  .exact .inr ⟨rfl,_,rfl,ih hk hf⟩
 |halt h=>
  rintro R s' f f' (hn|hx) _
  .exact .inl (hn.bind _)
  .exact hx.elim
def aG.mono {A':Pr->α->β->Prop}{s:cU α}:∀{R:Pr} {s':cU β},aG P S K A s R s'->(∀R',xV P K R R'->∀a b,A R' a b->A' R' a b)->aG P S K A' s R s':=by
 induction s with
 |pure a=>
  rintro R s' (hn|⟨b,rfl,h⟩) hf
  .exact .inl hn
  .exact .inr ⟨b,rfl,hf R (.refl R) a b h⟩
 |load m a k ih=>
  rintro R s' (hn|⟨hm,a',k',rfl,ha,hk⟩) hf
  .exact .inl hn
  .exact .inr ⟨hm,a',_,rfl,ha,λv v' hv=>ih v (hk v v' hv) hf⟩
 |store m a v k ih=>
  rintro R s' (hn|⟨hm,a',v',k',rfl,ha,hv,hk⟩) hf
  .exact .inl hn
  .exact .inr ⟨hm,a',v',_,rfl,ha,hv,ih hk hf⟩
 |new o k ih=>
  rintro R s' (hn|⟨o',k',rfl,ho,hk⟩) hf
  .exact .inl hn
  .exact .inr ⟨o',_,rfl,ho,λn n' fP=>ih n (hk n n' fP) λR' hR a b h=>hf R' ((xV.add fP).trans hR) a b h⟩
 |shape r k ih=>
  rintro R s' (hn|⟨r',k',rfl,hr,hk⟩) hf
  .exact .inl hn
  .exact .inr ⟨r',_,rfl,hr,λx=>ih x (hk x) hf⟩
 |freeze a n k ih=>
  rintro R s' (hn|h) hf
  .exact .inl hn
  .exact h.elim
 |frozen a k ih=>
  rintro R s' (hn|⟨r',k',rfl,hk⟩) hf
  .exact .inl hn
  .exact .inr ⟨r',_,rfl,λx x'=>ih x (hk x x') hf⟩
 |getObj r k ih=>
  rintro R s' (hn|⟨r',k',rfl,hr,hk⟩) hf
  .exact .inl hn
  .exact .inr ⟨r',_,rfl,hr,λo o' ho=>ih o (hk o o' ho) hf⟩
 |setObj r o k ih=>
  rintro R s' (hn|⟨r',o',k',rfl,hr,ho,hk⟩) hf
  .exact .inl hn
  .exact .inr ⟨r',o',_,rfl,hr,ho,ih hk hf⟩
 |choose q k ih=>
  rintro R s' (hn|⟨k',rfl,hk⟩) hf
  .exact .inl hn
  .exact .inr ⟨_,rfl,λn=>ih n (hk n) hf⟩
 |sys c k ih=>
  rintro R s' (hn|h) hf
  .exact .inl hn
  .exact h.elim
 |program k ih=>
  rintro R s' (hn|⟨k',rfl,hk⟩) hf
  .exact .inl hn
  .exact .inr ⟨_,rfl,ih P.g hk hf⟩
 |mark m k ih=>
  rintro R s' (hn|⟨rfl,k',rfl,hk⟩) hf
  .exact .inl hn
  .exact .inr ⟨rfl,_,rfl,ih hk hf⟩
 |halt h=>
  rintro R s' (hn|hx) _
  .exact .inl hn
  .exact hx.elim
end
structure cT (S:aO->Prop)(K R:Pr)(G:Gp)(St:Nat->Prop)(w W:aE):Prop where
 inj:∀a b c,R.or K a b->R.or K a c->b=c
 inj':∀a b c,R.or K a c->R.or K b c->a=b
 lt:∀a b,R.or K a b->a<w.heap.size/\b<W.heap.size
 low:∀a b,R a b->(a<G.n↔b<G.n)/\(a<G.n->a=b)
 gle:G.n<=w.heap.size/\G.n<=W.heap.size
 cont:∀a b,R a b->∃o o',w.heap[a]? =some o/\W.heap[b]? =some o'/\oI S K R o o'
 rest:∀a b,K a b->(∀c,¬R a c)->w.heap[a]? =some o9
 st:∀a,St a->(∃b,R a b)/\∃c T hi,w.heap[a]? =some (.cells c T (0,hi))/\c.size<=hi
 np:Cd w
 tb:∀g,G.tab g=true->R g g
def Tp (w W:aE):Prop:=∀n q,w.tape (w.drawn+n) q=W.tape (W.drawn+n) q
def Gb (e:Event):Option Nat:=match e.loc with| .cell a=>some a.block| .obj r=>some r|_=>none
def Fs (R:Pr)(St:Nat->Prop)(e:Event):Prop:=
 e=⟨.mark .noRoom,false,true⟩\/∃b a,Gb e=some b/\R a b/\(e.write=true->¬St a)
variable {St:Nat->Prop}
def Fs.mono (h:R.le R'){e:Event}(x:Fs R St e):Fs R' St e:=by
 rcases x with x|⟨b,a,h1,h2,h3⟩
 .exact .inl x
 .exact .inr ⟨b,a,h1,h _ _ h2,h3⟩
structure nA (S:aO->Prop)(K R:Pr)(G:Gp)(St:Nat->Prop)(w W:aE)(R':Pr)(w' W':aE):Prop where
 le:R.le R'
 old:∀a b,R a b->a<w.heap.size/\b<W.heap.size
 rel:cT S K R' G St w' W'
 tape:w'.tape=w.tape/\W'.tape=W.tape
 drawn:∃d,w'.drawn=w.drawn+d/\W'.drawn=W.drawn+d
 os:w'.os=w.os/\W'.os=W.os
 ou:w'.output=w.output/\W'.output=W.output
 size:w.heap.size<=w'.heap.size/\W.heap.size<=W'.heap.size
 new:∀a b,R' a b->R a b\/(w.heap.size<=a/\W.heap.size<=b)
 full:∀b,W.heap.size<=b->b<W'.heap.size->∃a,R' a b/\w.heap.size<=a
 keep:∀b,b<W.heap.size->(∀a,R a b->St a)->W'.heap[b]? =W.heap[b]?
 still:∀a,St a->w'.heap[a]? =w.heap[a]?
 keepG:∀a,a<w.heap.size->(∀b,¬R a b)->w'.heap[a]? =w.heap[a]?
section
variable {P:dL}{S:aO->Prop}{K R R' Ot:Pr}{G:Gp}{St:Nat->Prop}{w W w' W' D6 zrG:aE}
def cT.ltR (h:cT S K R G St w W):∀a b,R a b->a<w.heap.size/\b<W.heap.size:=λa b x=>h.lt a b (.inl x)
def nA.refl (h:cT S K R G St w W):nA S K R G St w W R w W:=
 ⟨.refl R,h.ltR,h,⟨rfl,rfl⟩,⟨0,rfl,rfl⟩,⟨rfl,rfl⟩,⟨rfl,rfl⟩,⟨aX _,aX _⟩,λ_ _ h=>.inl h,λb h1 h2=>absurd h2 aC,λ_ _ _=>rfl,λ_ _=>rfl,λ_ _ _=>rfl⟩
def nA.trans (h:nA S K R G St w W R' w' W')(h':nA S K R' G St w' W' Ot D6 zrG):nA S K R G St w W Ot D6 zrG:=by
 obtain⟨d,d1,d2⟩:=h.drawn;obtain⟨e,e1,e2⟩:=h'.drawn;have s1:=h.size;have s2:=h'.size;refine⟨h.le.trans h'.le,h.old,h'.rel,⟨h'.tape.1.trans h.tape.1,h'.tape.2.trans h.tape.2⟩,⟨d+e,aC,aC⟩,⟨h'.os.1.trans h.os.1,h'.os.2.trans h.os.2⟩,⟨h'.ou.1.trans h.ou.1,h'.ou.2.trans h.ou.2⟩,⟨aC,aC⟩,?_,?_,?_,?_,?_⟩
 .intro a b x
  rcases h'.new a b x with x|⟨x,y⟩
  .exact h.new a b x
  .exact .inr ⟨aC,aC⟩
 .intro b x y
  rcases mX b W'.heap.size with z|z
  .obtain⟨a,r,g⟩:=h.full b x z
   exact⟨a,h'.le a b r,g⟩
  .obtain⟨a,r,g⟩:=h'.full b z y
   exact⟨a,r,aC⟩
 .intro b x hk
  refine(h'.keep b aC λa r=>?_).trans (h.keep b x hk);rcases h.new a b r with r'|⟨_,r'⟩
  .exact hk a r'
  .omega
 .intro a x;exact(h'.still a x).trans (h.still a x)
 .intro a x y
  refine(h'.keepG a aC λb r=>?_).trans (h.keepG a x y);rcases h.new a b r with r'|⟨r',_⟩
  .exact y b r'
  .omega
end
section
variable {P:dL}{S:aO->Prop}{K R R':Pr}{G:Gp}{St:Nat->Prop}{w W w' W':aE}
def zoJ:(Mode.plain==Mode.atomic)=false:=rfl
variable {o:tM}
def zbT {w:aE}{a:Nat}(h:w.heap[a]? =some o):a<w.heap.size:=(dO.1 h).1
variable {o':tM}
def oI.live {S:aO->Prop}{K R:Pr}(h:oI S K R o o'):∀c e,o≠ .pending c e:=by cases h<;>simp
def Cd.set {w:aE}(h:Cd w){a:Nat}(ho:∀c e,o≠ .pending c e):Cd {w with heap:=w.heap.setIfInBounds a o}:=by
 intro b c e;by_cases hb:a=b
 .subst hb
  rcases mX a w.heap.size with hl|hl
  .simp only[Kd hl,ne_eq,fT];exact ho c e
  .rw[Gr (by simpa using hl)];simp
 .simp only[jQ hb];exact h b c e
def Cd.push {w:aE}(h:Cd w)(ho:∀c e,o≠ .pending c e):Cd {w with heap:=w.heap.push o}:=by
 intro b c e;simp only[Wa];split
 .simp only[ne_eq,fT];exact ho c e
 .exact h b c e
def nA.upd (h:cT S K R G St w W){a b:Nat}(r:R a b)(ns:¬St a)(ho:oI S K R o o'):
 nA S K R G St w W R {w with heap:=w.heap.setIfInBounds a o} {W with heap:=W.heap.setIfInBounds b o'}:=by
 obtain⟨l1,l2⟩:=h.ltR a b r;refine⟨.refl R,h.ltR,⟨h.inj,h.inj',λx y z=>by simpa using h.lt x y z,h.low,by simpa using h.gle,λx y z=>?_,λx y' hx nf=>?_,λx sx=>?_,Cd.set h.np ho.live,h.tb⟩,⟨rfl,rfl⟩,⟨0,rfl,rfl⟩,⟨rfl,rfl⟩,⟨rfl,rfl⟩,⟨aQ,aQ⟩,λ_ _ h=>.inl h,λx h1 h2=>absurd h2 r9,λx hx hk=>?_,λx sx=>?_,λx hx nf=>?_⟩
 .by_cases e:x=a
  .subst e
   have:=h.inj x y b (.inl z) (.inl r);subst this;exact⟨o,o',by simp[l1],by simp[l2],ho⟩
  .have e':y≠b:=λe'=>e (h.inj' x a b (.inl (e'▸z)) (.inl r))
   obtain⟨p,q,h1,h2,h3⟩:=h.cont x y z;exact⟨p,q,by simp[jQ (Ne.symm e),h1],by simp[jQ (Ne.symm e'),h2],h3⟩
 .have e:x≠a:=λe=>nf b (e▸r)
  have:=h.rest x _ hx nf;simp[jQ (Ne.symm e),this]
 .have e:x≠a:=λe=>ns (e▸sx)
  obtain⟨fx,c,T,hi,h1,h2⟩:=h.st x sx;exact⟨fx,c,T,hi,by simp[jQ (Ne.symm e),h1],h2⟩
 .have e:b≠x:=λe=>ns (hk a (e▸r))
  simp[jQ e]
 .have e:x≠a:=λe=>ns (e▸sx)
  simp[jQ (Ne.symm e)]
 .have e:x≠a:=λe=>nf b (e▸r)
  simp[jQ (Ne.symm e)]
def U9 {w:aE}{b o:Nat}{c:Array aF}{T:aM}{fz:Nat×Nat}(h:w.heap[b]? =some (.cells c T fz))(v:aF):
 w.setCell ⟨b,o,none⟩ v={w with heap:=w.heap.setIfInBounds b (.cells (c.setIfInBounds o v) T fz)}:=by
 have hl:=zbT h;have hb:w.heap[b]=.cells c T fz:=by simpa[mK hl] using h
 unfold zhA;congr 1;apply Array.ext_getElem?;intro i;rw[zi3];by_cases e:b=i
 .subst e;simp[hl,hb]
 .rw[if_neg e,jQ e]
def nA.push (h:cT S K R G St w W)(ho:oI S K R o o'):
 nA S K R G St w W (R.add w.heap.size W.heap.size) {w with heap:=w.heap.push o} {W with heap:=W.heap.push o'}:=by
 have l1:∀a b,R.or K a b->a≠w.heap.size:=λa b x e=>by have:=(h.lt a b x).1;omega
 have l2:∀a b,R.or K a b->b≠W.heap.size:=λa b x e=>by have:=(h.lt a b x).2;omega
 have g1:=h.gle;refine⟨Pr.le_add _ _ _,h.ltR,⟨?_,?_,?_,?_,r9,?_,?_,?_,Cd.push h.np ho.live,λg hg=>.inl (h.tb g hg)⟩,⟨rfl,rfl⟩,⟨0,rfl,rfl⟩,⟨rfl,rfl⟩,⟨rfl,rfl⟩,⟨aQ,aQ⟩,?_,?_,?_,?_,?_⟩
 .rintro a b c ((x|⟨rfl,rfl⟩)|x) ((y|⟨e,rfl⟩)|y)
  .exact h.inj a b c (.inl x) (.inl y)
  .exact absurd e (l1 _ _ (.inl x))
  .exact h.inj a b c (.inl x) (.inr y)
  .exact absurd rfl (l1 _ _ (.inl y))
  .rfl
  .exact absurd rfl (l1 _ _ (.inr y))
  .exact h.inj a b c (.inr x) (.inl y)
  .exact absurd e (l1 _ _ (.inr x))
  .exact h.inj a b c (.inr x) (.inr y)
 .rintro a b c ((x|⟨rfl,rfl⟩)|x) ((y|⟨rfl,e⟩)|y)
  .exact h.inj' a b c (.inl x) (.inl y)
  .exact absurd e (l2 _ _ (.inl x))
  .exact h.inj' a b c (.inl x) (.inr y)
  .exact absurd rfl (l2 _ _ (.inl y))
  .rfl
  .exact absurd rfl (l2 _ _ (.inr y))
  .exact h.inj' a b c (.inr x) (.inl y)
  .exact absurd e (l2 _ _ (.inr x))
  .exact h.inj' a b c (.inr x) (.inr y)
 .rintro a b ((x|⟨rfl,rfl⟩)|x)
  .have:=h.lt a b (.inl x);simp;omega
  .simp
  .have:=h.lt a b (.inr x);simp;omega
 .rintro a b (x|⟨rfl,rfl⟩)
  .exact h.low a b x
  .exact⟨aC,λz=>by omega⟩
 .rintro a b (x|⟨rfl,rfl⟩)
  .obtain⟨p,q,h1,h2,h3⟩:=h.cont a b x
   exact⟨p,q,by rw[U3 (zbT h1)];rw[<-h1,mK],by rw[U3 (zbT h2)];rw[<-h2,mK],h3.mono (Pr.le_add _ _ _)⟩
  .exact⟨o,o',aQ,aQ,ho.mono (Pr.le_add _ _ _)⟩
 .intro a b' ha nf
  have e:a≠w.heap.size:=λe=>nf _ (.inr ⟨e,rfl⟩);have hl:=(h.lt a b' (.inr ha)).1;have:=h.rest a b' ha (λb f=>nf b (.inl f));rw[U3 hl,<-this,mK]
 .intro a sa
  obtain⟨⟨b,fa⟩,c,T,hi,h1,h2⟩:=h.st a sa;exact⟨⟨b,.inl fa⟩,c,T,hi,by rw[U3 (zbT h1),<-h1,mK],h2⟩
 .rintro a b (x|⟨rfl,rfl⟩)
  .exact .inl x
  .exact .inr ⟨aX _,aX _⟩
 .intro b x y
  simp only[Array.size_push] at y;obtain rfl:b=W.heap.size:=aC;exact⟨_,.inr ⟨rfl,rfl⟩,aX _⟩
 .intro b hb _
  rw[U3 hb,mK]
 .intro a sa
  obtain⟨fa,c,T,hi,h1,h2⟩:=h.st a sa;rw[U3 (zbT h1),mK]
 .intro a ha _
  rw[U3 ha,mK]
def nA.draw (h:cT S K R G St w W):nA S K R G St w W R {w with drawn:=w.drawn+1} {W with drawn:=W.drawn+1}:=
 ⟨.refl R,h.ltR,⟨h.inj,h.inj',h.lt,h.low,h.gle,h.cont,h.rest,h.st,h.np,h.tb⟩,⟨rfl,rfl⟩,⟨1,rfl,rfl⟩,⟨rfl,rfl⟩,⟨rfl,rfl⟩,⟨aX _,aX _⟩,λ_ _ h=>.inl h,λb h1 h2=>absurd h2 r9,λ_ _ _=>rfl,λ_ _=>rfl,λ_ _ _=>rfl⟩
def Tp.step (h:Tp w W)(s:nA S K R G St w W R' w' W'):Tp w' W':=by
 obtain⟨d,d1,d2⟩:=s.drawn;intro n q;rw[s.tape.1,s.tape.2,d1,d2,Wi,Wi];exact h (d+n) q
end
def y6 (P:dL)(S:aO->Prop)(K:Pr){α β:Type}(A:Pr->α->β->Prop)(R:Pr)(G:Gp)(St:Nat->Prop)(w W:aE)(s':cU β)(x:α)(w':aE):Prop:=
 ∃R' x' W' ev,s'.run P.c W=.ok x' W'/\A R' x x'/\nA S K R G St w W R' w' W'/\(∀es,s'.events P.c W es=es++ev)/\∀e∈ev,Fs R' St e
variable {S:aO->Prop}{W w':aE}{e₁:Array Event}
def y6.after {A:Pr->α->β->Prop}{zkH:Pr}{G:Gp}{aI aV:aE}{s' s₁':cU β}{x:α}
 (vS:nA S K R G St w W zkH aI aV) (hr:s'.run P.c W=s₁'.run P.c aV) (he:∀es,s'.events P.c W es=s₁'.events P.c aV (es++e₁)) (bV:∀e∈e₁,Fs zkH St e) (h:y6 P S K A zkH G St aI aV s₁' x w'):y6 P S K A R G St w W s' x w':=by
 obtain⟨R',x',W',ev,a,b,c,d,e⟩:=h;refine⟨R',x',W',e₁++ev,hr.trans a,b,vS.trans c,λes=>by rw[he,d,Array.append_assoc],λy hy=>?_⟩;rcases Array.mem_append.1 hy with hy|hy
 .exact(bV y hy).mono c.le
 .exact e y hy
def oI.shape {G:Gp}(h:cT S K R G St w W){r r':Nat}(x:R r r'):W.shape? r'=w.shape? r:=by
 obtain⟨o,o',h1,h2,h3⟩:=h.cont r r' x;unfold zbf;rw[h1,h2]
 cases h3 with
 |cells hc _=>simp[hc.1]
 |_=>rfl
def cT.orR {G:Gp}(h:cT S K R G St w W){a b:Nat}(x:R.or K a b):R a b\/w.heap[a]? =some o9:=by
 by_cases e:∃c,R a c
 .obtain⟨c,e⟩:=e
  exact .inl (h.inj a b c x (.inl e)▸e)
 .exact .inr (h.rest a b (x.resolve_left λy=>e ⟨b,y⟩) (λc y=>e ⟨c,y⟩))
def aG.run {A:Pr->α->β->Prop}{G:Gp}(hG:G=P.gp){x:α}(s:cU α):
 ∀{R:Pr} {w W:aE} {s':cU β},aG P S K A s R s'->cT S K R G St w W->Tp w W->s.run P.g w=.ok x w'->y6 P S K A R G St w W s' x w':=by
 induction s with
 |pure a=>
  rintro R w W s' (hn|⟨b,rfl,h⟩) hw ht hr
  .exact absurd hr (hn.no hw.np _ _)
  simp only[bD,Result.ok.injEq] at hr;obtain⟨rfl,rfl⟩:=hr;exact⟨R,b,W,#[],rfl,h,.refl hw,λes=>by unfold wE;rw[zQ];simp,λe he=>by simp at he⟩
 |load m a k ih=>
  rintro R w W s' (hn|⟨rfl,a',k',rfl,ha,hk⟩) hw ht hr
  .exact absurd hr (hn.no hw.np _ _)
  obtain⟨qQ⟩:=ha;rename_i b b' o sp
  .obtain⟨ob,yA,h1,h2,h3⟩:=hw.cont b b' qQ
   cases h3 with
   |cells hc hz=>
    rename_i c c' T fz Ii
    cases sp with
    |some sp=>simp[bD,lI,h1,yX,rE] at hr
    |none=>
     cases hv:c[o]? with
     |none=>simp[bD,lI,h1,yX,rE,hv] at hr
     |some v=>
      obtain⟨v',J6,wI⟩:=hc.get hv;have e1:w.cell? ⟨b,o,none⟩=some v:=by simp[lI,h1,hv]
      have e2:W.cell? ⟨b',o,none⟩=some v':=by simp[lI,h2,J6]
      rw[bD,e1] at hr;refine y6.after (e₁:=#[⟨.cell ⟨b',o,none⟩,false,false⟩]) (.refl hw) (by rw[bD,e2]) (λes=>by unfold wE;rw[zQ,e2];simp[zoJ]) ?_ (ih v (hk v v' wI) hw ht hr);intro e he;simp at he;subst he;exact .inr ⟨b',b,rfl,qQ,aQ⟩
   |map x=>simp[bD,lI,h1,yX,rE] at hr
   |chan x=>simp[bD,lI,h1,yX,rE] at hr
   |stringIter x y=>simp[bD,lI,h1,yX,rE] at hr
   |mapIter x=>simp[bD,lI,h1,yX,rE] at hr
   |number x=>simp[bD,lI,h1,yX,rE] at hr
 |store m a v k ih=>
  rintro R w W s' (hn|⟨rfl,a',v',k',rfl,ha,hv,hk⟩) hw ht hr
  .exact absurd hr (hn.no hw.np _ _)
  obtain⟨qQ⟩:=ha;rename_i b b' o sp;have M0:∀cs,v≠ .agg cs:=by rintro cs rfl;simp[bD] at hr
  have Be:∀cs,v≠ .tuple cs:=by rintro cs rfl;simp[bD] at hr
  have zsA:∀cs,v'≠ .agg cs:=by rintro cs rfl;cases hv<;>first|exact M0 _ rfl|exact Be _ rfl|(rename_i hh;exact hh.elim)
  have zn7:∀cs,v'≠ .tuple cs:=by rintro cs rfl;cases hv<;>first|exact Be _ rfl|(rename_i hh;exact hh.elim)
  rw[bD] at hr
  rotate_left
  .exact λcs=>M0 cs
  .exact λcs=>Be cs
  .obtain⟨ob,yA,h1,h2,h3⟩:=hw.cont b b' qQ
   cases h3 with
   |cells hc hz=>
    rename_i c c' T fz Ii
    cases sp with
    |some sp=>simp[lI,h1,De,rE] at hr
    |none=>
     cases fJ:c[o]? with
     |none=>simp[lI,h1,De,rE,fJ] at hr
     |some v0=>
      obtain⟨zIf,zeR,_⟩:=hc.get fJ;have e1:w.cell? ⟨b,o,none⟩=some v0:=by simp[lI,h1,fJ]
      have e2:W.cell? ⟨b',o,none⟩=some zIf:=by simp[lI,h2,zeR]
      rw[e1] at hr;simp only at hr
      cases mU:w.frozen? ⟨b,o,none⟩ with
      |true=>rw[mU] at hr;simp at hr
      |false=>
       rw[mU] at hr;simp only[jF,if_false] at hr;have Yr:¬Jv fz o:=by
        intro⟨z1,z2⟩;simp[Sa,h1,z1,z2] at mU
       have y8:¬St b:=by
        intro hs;obtain⟨_,c2,T2,hi,g1,g2⟩:=hw.st b hs;rw[h1] at g1;injection g1 with g1;injection g1 with g1 _ g3;subst g1 g3;exact Yr ⟨jY _,lC (dO.1 fJ).1 g2⟩
       have zuh:W.frozen? ⟨b',o,none⟩=false:=by
        simp only[Sa,h2]
        cases hq:(decide (Ii.1<=o)&&decide (o<Ii.2)) with
        |false=>rfl
        |true=>simp at hq;exact absurd (hz o hq) Yr
       rw[U9 h1] at hr;refine y6.after (e₁:=#[⟨.cell ⟨b',o,none⟩,true,false⟩]) (nA.upd hw qQ y8 (.cells (hc.set o hv) hz)) (s₁':=k') ?_ ?_ ?_ (ih hk (nA.upd hw qQ y8 (.cells (hc.set o hv) hz)).rel (ht.step (nA.upd hw qQ y8 (.cells (hc.set o hv) hz))) hr)
       .rw[bD]
        rotate_left
        .exact λcs=>zsA cs
        .exact λcs=>zn7 cs
        rw[e2];simp only[zuh,jF,if_false];rw[U9 h2]
       .intro es
        unfold wE;rw[zQ]
        rotate_left
        .exact λcs=>zsA cs
        .exact λcs=>zn7 cs
        rw[e2];simp only[zuh,jF,if_false];rw[U9 h2];simp[zoJ]
       .intro e he
        simp at he;subst he;exact .inr ⟨b',b,rfl,qQ,λ_=>y8⟩
   |map x=>simp[lI,h1,De,rE] at hr
   |chan x=>simp[lI,h1,De,rE] at hr
   |stringIter x y=>simp[lI,h1,De,rE] at hr
   |mapIter x=>simp[lI,h1,De,rE] at hr
   |number x=>simp[lI,h1,De,rE] at hr
 |new o k ih=>
  rintro R w W s' (hn|⟨o',k',rfl,ho,hk⟩) hw ht hr
  .exact absurd hr (hn.no hw.np _ _)
  rw[bD] at hr;exact y6.after (e₁:=#[]) (nA.push hw ho) N1 (λes=>by unfold wE;rw[zQ];simp) (λe he=>by simp at he) (ih _ (hk _ _ ⟨λb hb=>absurd (hw.lt _ _ hb).1 (Ci _),λa ha=>absurd (hw.lt _ _ ha).2 (Ci _),by subst hG;exact hw.gle⟩) (nA.push hw ho).rel (ht.step (nA.push hw ho)) hr)
 |shape r k ih=>
  rintro R w W s' (hn|⟨r',k',rfl,tG,hk⟩) hw ht hr
  .exact absurd hr (hn.no hw.np _ _)
  rw[bD] at hr;exact y6.after (e₁:=#[]) (.refl hw) (by rw[bD,oI.shape hw tG]) (λes=>by unfold wE;rw[zQ,oI.shape hw tG];simp) (λe he=>by simp at he) (ih _ (hk _) hw ht hr)
 |freeze a n k ih=>
  rintro R w W s' (hn|h) hw ht hr
  .exact absurd hr (hn.no hw.np _ _)
  .exact h.elim
 |frozen a k ih=>
  rintro R w W s' (hn|⟨r',k',rfl,hk⟩) hw ht hr
  .exact absurd hr (hn.no hw.np _ _)
  rw[bD] at hr;exact y6.after (e₁:=#[]) (.refl hw) N1 (λes=>by unfold wE;rw[zQ];simp) (λe he=>by simp at he) (ih _ (hk _ _) hw ht hr)
 |getObj r k ih=>
  rintro R w W s' (hn|⟨r',k',rfl,tG,hk⟩) hw ht hr
  .exact absurd hr (hn.no hw.np _ _)
  rw[bD] at hr
  .replace tG:R r r':=by
    rcases hw.orR tG with x|x
    .exact x
    .rw[x] at hr;simp[o9] at hr
   obtain⟨ob,yA,h1,h2,h3⟩:=hw.cont r r' tG;rw[h1] at hr;have go:(∀c T fz,ob≠ .cells c T fz)->(∀c T fz,yA≠ .cells c T fz)->y6 P S K A R G St w W (.getObj r' k') x w':=by
    intro n1 n2;refine y6.after (e₁:=#[⟨.obj r',false,yA.isChan⟩]) (.refl hw) (s₁':=k' yA) ?_ ?_ ?_ (ih ob (hk _ _ h3) hw ht ?_)
    .rw[bD,h2];cases yA<;>first|rfl|exact absurd rfl (n2 _ _ _)
    .intro es;unfold wE;rw[zQ,h2];cases yA<;>first|(simp;done)|exact absurd rfl (n2 _ _ _)
    .intro e he
     simp at he;subst he;exact .inr ⟨r',r,rfl,tG,aQ⟩
    .cases ob<;>first|exact hr|exact absurd rfl (n1 _ _ _)
   cases h3 with
   |cells hc hz=>simp at hr
   |map x=>exact go aQ aQ
   |chan x=>exact go aQ aQ
   |stringIter x y=>exact go aQ aQ
   |mapIter x=>exact go aQ aQ
   |number x=>exact go aQ aQ
 |setObj r o k ih=>
  rintro R w W s' (hn|⟨r',o',k',rfl,tG,ho,hk⟩) hw ht hr
  .exact absurd hr (hn.no hw.np _ _)
  rw[bD] at hr
  .replace tG:R r r':=by
    rcases hw.orR tG with x|x
    .exact x
    .rw[x] at hr;simp[o9] at hr
   obtain⟨ob,yA,h1,h2,h3⟩:=hw.cont r r' tG;rw[h1] at hr;have go:(∀c T fz,ob≠ .cells c T fz)->(∀c T fz,yA≠ .cells c T fz)->y6 P S K A R G St w W (.setObj r' o' k') x w':=by
    intro n1 n2;have y8:¬St r:=by
     intro hs;obtain⟨_,c2,T2,hi,g1,g2⟩:=hw.st r hs;rw[h1] at g1;injection g1 with g1;exact n1 _ _ _ g1
    refine y6.after (e₁:=#[⟨.obj r',true,o'.isChan⟩]) (nA.upd hw tG y8 ho) (s₁':=k') ?_ ?_ ?_ (ih hk (nA.upd hw tG y8 ho).rel (ht.step (nA.upd hw tG y8 ho)) ?_)
    .rw[bD,h2];cases yA<;>first|rfl|exact absurd rfl (n2 _ _ _)
    .intro es;unfold wE;rw[zQ,h2];cases yA<;>first|(simp;done)|exact absurd rfl (n2 _ _ _)
    .intro e he
     simp at he;subst he;exact .inr ⟨r',r,rfl,tG,λ_=>y8⟩
    .cases ob<;>first|exact hr|exact absurd rfl (n1 _ _ _)
   cases h3 with
   |cells hc hz=>simp at hr
   |map x=>exact go aQ aQ
   |chan x=>exact go aQ aQ
   |stringIter x y=>exact go aQ aQ
   |mapIter x=>exact go aQ aQ
   |number x=>exact go aQ aQ
 |choose q k ih=>
  rintro R w W s' (hn|⟨k',rfl,hk⟩) hw ht hr
  .exact absurd hr (hn.no hw.np _ _)
  rw[bD] at hr
  cases hq:q.forced with
  |true=>
   rw[hq] at hr;simp only[if_true] at hr;exact y6.after (e₁:=#[]) (.refl hw) (by rw[bD,hq];simp) (λes=>by unfold wE;rw[zQ,hq];simp) (λe he=>by simp at he) (ih 0 (hk 0) hw ht hr)
  |false=>
   rw[hq] at hr;simp only[jF,if_false] at hr;have ea:w.tape w.drawn q=W.tape W.drawn q:=ht 0 q;rw[ea] at hr;exact y6.after (e₁:=#[]) (nA.draw hw) (by rw[bD,hq];simp) (λes=>by unfold wE;rw[zQ,hq];simp) (λe he=>by simp at he) (ih _ (hk _) (nA.draw hw).rel (ht.step (nA.draw hw)) hr)
 |sys c k ih=>
  rintro R w W s' (hn|h) hw ht hr
  .exact absurd hr (hn.no hw.np _ _)
  .exact h.elim
 |program k ih=>
  rintro R w W s' (hn|⟨k',rfl,hk⟩) hw ht hr
  .exact absurd hr (hn.no hw.np _ _)
  rw[bD] at hr;exact y6.after (e₁:=#[]) (.refl hw) N1 (λes=>by unfold wE;rw[zQ];simp) (λe he=>by simp at he) (ih _ hk hw ht hr)
 |mark m k ih=>
  rintro R w W s' (hn|⟨rfl,k',rfl,hk⟩) hw ht hr
  .exact absurd hr (hn.no hw.np _ _)
  .rw[bD] at hr
   exact y6.after (e₁:=#[⟨.mark .noRoom,false,true⟩]) (.refl hw) N1 (λes=>by unfold wE;rw[zQ];simp) (λe he=>by simp at he;exact .inl he) (ih hk hw ht hr)
 |halt h=>rintro R w W s' _ hw ht hr;simp[bD] at hr
section
variable {P:dL}{S:aO->Prop}{K:Pr}{α β γ δ:Type}{R:Pr}
abbrev lT {α:Type}:Pr->α->α->Prop:=λ_ a b=>a=b
abbrev VA (S:aO->Prop)(K:Pr):Pr->aF->aF->Prop:=λR v v'=>VR S K R v v'
def aG.bnd {A:Pr->α->β->Prop}{B:Pr->γ->δ->Prop}{s:cU α}{s':cU β}{f:α->cU γ}{f':β->cU δ}(h:aG P S K A s R s')(hf:∀R',xV P K R R'->∀a b,A R' a b->aG P S K B (f a) R' (f' b)):
 aG P S K B (s>>=f) R (s'>>=f'):=aG.bind h hf
def aG.ret {A:Pr->α->β->Prop}{a:α}{b:β}(h:A R a b):aG P S K A (kU a:cU α) R (kU b:cU β):=aG.pure h
def bO {Ta:String}:fC P (stuck Ta:cU α):=fC.halt trivial
variable {u:Unsupported}
def lF (hu:Yg (.unsupported u):=by trivial):fC P (unsupported u:cU α):=fC.halt hu
variable {v:aF}
def zeg :fC P (goPanic v:cU α):=fC.halt trivial
def fC.bnd {s:cU α}(h:fC P s)(f:α->cU β):fC P (s>>=f):=h.bind f
def nE (P:dL)(s:cU α):Prop:=∀w,Cd w->(∃a w',s.run P.g w=.ok a w'/\Cd w')\/∃h w',s.run P.g w=.halt h w'/\Yg h
def nE.never {s:cU α}(h:fC P s):nE P s:=λw hw=>.inr (h w hw)
def nE.ret (a:α):nE P (kU a:cU α):=λw hw=>.inl ⟨a,w,rfl,hw⟩
def nE.bnd {s:cU α}{f:α->cU β}(h:nE P s)(hf:∀a,nE P (f a)):nE P (s>>=f):=by
 intro w hw;have e:(s>>=f).run P.g w=_:=rK P.g s f w;rcases h w hw with⟨a,w',h1,h2⟩|⟨y,w',h1,h2⟩
 .rcases hf a w' h2 with⟨b,w2,h3,h4⟩|⟨y,w2,h3,h4⟩
  .exact .inl ⟨b,w2,by rw[e,h1];exact h3,h4⟩
  .exact .inr ⟨y,w2,by rw[e,h1];exact h3,h4⟩
 .exact .inr ⟨y,w',by rw[e,h1];rfl,h2⟩
def zjJ:nE P program:=λw hw=>.inl ⟨P.g,w,rfl,hw⟩
def zjd (q:Question):nE P (choose q):=λw hw=>by
 unfold choose bD;split
 .exact .inl ⟨0,w,rfl,hw⟩
 .exact .inl ⟨_,_,rfl,hw⟩
def zHo (r:Nat):nE P (shape r):=λw hw=>.inl ⟨_,w,rfl,hw⟩
variable {o:tM}
def zF6 (ho:∀c e,o≠ .pending c e):nE P (newObj o):=λw hw=>.inl ⟨_,_,rfl,Cd.push hw ho⟩
def zEQ (t:aM):nE P (underlying t):=by
 unfold underlying;refine zjJ.bnd λp=>?_;split
 .exact nE.ret _
 .exact .never bO
def zIp (t:aM)(v:aF):nE P (newVar t v):=by
 unfold newVar newRow;exact(zF6 aQ).bnd λ_=>nE.ret _
def zIy (t:aM):nE P (elemOf t):=by
 unfold elemOf;refine(zEQ t).bnd λd=>?_;split
 .exact nE.ret _
 .exact .never bO
def zI1 (a:bL):nE P (frozen a):=λw hw=>.inl ⟨_,w,rfl,hw⟩
def zCX (m:Mark):nE P (mark m):=λw hw=>.inl ⟨_,w,rfl,hw⟩
def zue (a:bL)(n:Nat):nE P (zl5 a n):=by
 unfold zl5;refine(zHo _).bnd λx=>?_;split<;>exact nE.ret _
def zJJ (size Zy n:Nat)(base:Option bL)(x:aF):nE P (zv0 size Zy n base x):=by
 unfold zv0;have tail:∀b:Bool,nE P (match x with
  | .slice (some b) _ _=>do pure (!(<-zl5 b (n*size))||base.any (·.block==b.block))
  |_=>pure false:cU Bool):=λ_=>by
  split
  .exact(zue _ _).bnd λ_=>nE.ret _
  .exact nE.ret _
 cases base with
 |none=>
  refine(nE.ret true).bnd λthere=>?_;cases there
  .exact nE.ret _
  .exact tail true
 |some a=>
  refine(zue _ _).bnd λh1=>(zI1 _).bnd λh2=>?_;refine(nE.ret _).bnd λthere=>?_;cases there
  .exact nE.ret _
  .exact tail true
def fC.then {s:cU α}{f:α->cU β}(hs:nE P s)(h:∀a,fC P (f a)):fC P (s>>=f):=by
 intro w hw;have e:(s>>=f).run P.g w=_:=rK P.g s f w;rcases hs w hw with⟨a,w',h1,h2⟩|⟨y,w',h1,h2⟩
 .obtain⟨y,w2,h3,h4⟩:=h a w' h2
  exact⟨y,w2,by rw[e,h1];exact h3,h4⟩
 .exact⟨y,w',by rw[e,h1];rfl,h2⟩
variable {e:RuntimeError}
def vK :fC P (runtimePanic e:cU α):=by
 unfold runtimePanic;refine fC.then zjJ λp=>?_;cases e<;>first|exact zeg|(refine fC.then (zIy _) λ_=>?_;refine fC.then (zIp _ _) λ_=>?_;exact zeg)
def Wl {k:Ez}{x y:Int}{c:zkX}:fC P (boundsPanic k x y c:cU α):=by
 unfold boundsPanic;simp only;split
 .refine fC.then ?_ λ_=>vK
  exact(zjd _).bnd λ_=>nE.ret _
 .exact fC.then (nE.ret _) λ_=>vK
def Rp:aG P S K (λ_ a b=>a=P.g/\b=P.c) program R program:=.inr ⟨_,rfl,.inr ⟨P.c,rfl,rfl,rfl⟩⟩
def zfj (q:Question):aG P S K lT (choose q) R (choose q):=.inr ⟨_,rfl,λn=>.inr ⟨n,rfl,rfl⟩⟩
def lY (t:aM):aG P S K (λ_ a b=>a=b/\P.underlying t=some a) (underlying t) R (underlying t):=by
 unfold underlying;refine aG.bnd Rp ?_;rintro R' _ a b ⟨ha,hb⟩;rw[ha,hb,P.underlying_g]
 cases h:P.c.underlying t with
 |some d=>exact aG.ret ⟨rfl,h⟩
 |none=>exact .inl bO
def D5 (t:aM):aG P S K (λ_ a b=>a=b/\P.info? t=some a) (typeInfo t) R (typeInfo t):=by
 unfold typeInfo;refine aG.bnd Rp ?_;rintro R' _ a b ⟨ha,hb⟩;rw[ha,hb,P.info_g]
 cases h:P.c.info? t with
 |some d=>exact aG.ret ⟨rfl,h⟩
 |none=>exact .inl bO
def Hz (P:dL)(S:aO->Prop):Prop:=∀(K R:Pr) t i z,P.info? t=some i->i.zero=some z->VR S K R z z
def Qd (hz:Hz P S)(t:aM):aG P S K (VA S K) (zeroValue t) R (zeroValue t):=by
 unfold zeroValue;refine aG.bnd (D5 t) ?_;rintro R' _ a b ⟨rfl,h⟩
 cases h2:a.zero with
 |some z=>exact aG.ret (hz K R' t a z h h2)
 |none=>exact .inl lF
def Aq (t:aM):aG P S K lT (sizeOf t) R (sizeOf t):=by
 unfold sizeOf;refine aG.bnd (D5 t) ?_;rintro R' _ a b ⟨rfl,h⟩;exact aG.ret rfl
def zoM (t:aM):aG P S K lT (isAgg t) R (isAgg t):=by
 unfold isAgg;refine aG.bnd (lY t) ?_;rintro R' _ a b ⟨rfl,h⟩;cases a<;>exact aG.ret rfl
variable {v':aF}
def zew (h:VR S K R v v'):aG P S K lT (asIntOf v) R (asIntOf v'):=by
 cases h with
 |int k n=>exact aG.ret rfl
 |pointer x=>cases x<;>first|exact .inl lF|exact .inl bO
 |_=>exact .inl bO
def Ye (h:VR S K R v v'):aG P S K lT (asInt v) R (asInt v'):=by
 unfold asInt;refine aG.bnd (zew h) ?_;rintro R' _ a b rfl;exact aG.ret rfl
def zBu (h:VR S K R v v'):aG P S K lT (asBool v) R (asBool v'):=by
 cases h with
 |bool b=>exact aG.ret rfl
 |_=>exact .inl bO
def zwX (h:VR S K R v v'):aG P S K (λR a b=>fU R a b) (asAddr v) R (asAddr v'):=by
 cases h with
 |pointer x=>
  cases x with
  |none=>exact .inl (by unfold asAddr;exact vK)
  |some x=>exact aG.ret x
 |_=>exact .inl bO
def zb5 (h:VR S K R v v'):aG P S K (λR a b=>fU R a b) (zsU v) R (zsU v'):=by
 cases h with
 |pointer x=>
  cases x with
  |none=>exact .inl bO
  |some x=>exact aG.ret x
 |_=>exact .inl bO
variable {a a':bL}
def zo7 (h:fU R a a'):aG P S K (VA S K) (load a) R (load a'):=.inr ⟨rfl,a',_,rfl,h,λv v' hv=>.inr ⟨v',rfl,hv⟩⟩
def zyX (h:fU R a a')(hv:VR S K R v v'):aG P S K lT (store a v) R (store a' v'):=.inr ⟨rfl,a',v',_,rfl,h,hv,.inr ⟨(),rfl,rfl⟩⟩
variable {o':tM}
def zet (h:oI S K R o o'):aG P S K (λR a b=>R a b) (newObj o) R (newObj o'):=.inr ⟨o',_,rfl,h,λn n' _=>.inr ⟨n',rfl,.inr ⟨rfl,rfl⟩⟩⟩
variable {r r':Nat}
def za4 (h:R r r'):aG P S K lT (shape r) R (shape r'):=.inr ⟨r',_,rfl,h,λx=>.inr ⟨x,rfl,rfl⟩⟩
def Sn (h:R r r'):aG P S K (λR o o'=>oI S K R o o') (getObj r) R (getObj r'):=.inr ⟨r',_,rfl,.inl h,λo o' ho=>.inr ⟨o',rfl,ho⟩⟩
def zaB (h:R r r')(ho:oI S K R o o'):aG P S K lT (setObj r o) R (setObj r' o'):=.inr ⟨r',o',_,rfl,.inl h,ho,.inr ⟨(),rfl,rfl⟩⟩
def zx3 (h:R.or K r r'):aG P S K (λR o o'=>oI S K R o o') (getObj r) R (getObj r'):=.inr ⟨r',_,rfl,h,λo o' ho=>.inr ⟨o',rfl,ho⟩⟩
def zi0 (n:Nat):aG P S K lT (askRoom n) R (askRoom n):=by
 unfold askRoom;split
 .exact .inr ⟨rfl,_,rfl,.inr ⟨(),rfl,rfl⟩⟩
 .exact aG.ret rfl
def fU.add (h:fU R a a')(n:Nat):fU R (a.add n) (a'.add n):=by
 cases h with
 |mk h=>unfold zg0;split<;>exact .mk h
def wU.map {a a':Option bL}(h:wU R a a')(n:Nat):wU R (a.map (·.add n)) (a'.map (·.add n)):=by
 cases h with
 |none=>exact .none
 |some h=>exact .some (h.add n)
def zvP :∀(n i:Nat) {R:Pr} {acc zgt:Array aF},fU R a a'->bK S K R acc zgt->aG P S K (λR x y=>bK S K R x y) (loadCellsFrom a i n acc) R (loadCellsFrom a' i n zgt)
 |0,i,R,acc,zgt,h,hc=>aG.ret hc
 |n+1,i,R,acc,zgt,h,hc=>by
  unfold loadCellsFrom;refine aG.bnd (zo7 (h.add i)) ?_;intro R' hR v v' hv;exact zvP n (i+1) (h.mono hR.le) ((hc.mono hR.le).push hv)
def zkW (h:fU R a a')(n:Nat):aG P S K (λR x y=>bK S K R x y) (loadCells a n) R (loadCells a' n):=zvP n 0 h bK.empty
def xN (S:aO->Prop)(K R:Pr)(xs bY:List aF):Prop:=xs.length=bY.length/\∀(i:Nat) (v v':aF),xs[i]? =some v->bY[i]? =some v'->VR S K R v v'
def bK.toList {xs bY:Array aF}(h:bK S K R xs bY):xN S K R xs.toList bY.toList:=⟨by simpa using h.1,λi v v' h1 h2=>h.2 i v v' Q9 Ts⟩
variable {xs bY:List aF}
def xN.mono {R':Pr}(hR:R.le R')(h:xN S K R xs bY):xN S K R' xs bY:=⟨h.1,λi v v' h1 h2=>(h.2 i v v' h1 h2).mono hR⟩
def xN.cons {x x':aF}(h:xN S K R (x::xs) (x'::bY)):VR S K R x x'/\xN S K R xs bY:=
 ⟨h.2 0 x x' rfl rfl,by simpa using h.1,λi v v' h1 h2=>h.2 (i+1) v v' Q9 Ts⟩
def Yp :∀(vs zg3:List aF) (i:Nat) {R:Pr},fU R a a'->xN S K R vs zg3->aG P S K lT (storeCells a vs i) R (storeCells a' zg3 i)
 |[],[],i,R,h,hv=>aG.ret rfl
 |[],_::_,i,R,h,hv=>by have:=hv.1;simp at this
 |_::_,[],i,R,h,hv=>by have:=hv.1;simp at this
 |v::vs,v'::zg3,i,R,h,hv=>by
  unfold storeCells;obtain⟨h1,h2⟩:=hv.cons;refine aG.bnd (zyX (h.add i) h1) ?_;intro R' hR _ _ _;exact Yp vs zg3 (i+1) (h.mono hR.le) (h2.mono hR.le)
def zxx (t:aM)(h:fU R a a'):aG P S K (VA S K) (loadVar t a) R (loadVar t a'):=by
 unfold loadVar;refine aG.bnd (zoM t) ?_;rintro R1 h1 b _ rfl
 cases b with
 |true=>
  simp only[if_true];refine aG.bnd (Aq t) ?_;rintro R2 h2 n _ rfl;refine aG.bnd (zkW ((h.mono h1.le).mono h2.le) n) ?_;intro R3 h3 x y zCi;exact aG.ret (VR.agg' zCi)
 |false=>simpa using zo7 (h.mono h1.le)
def zBE (t:aM)(h:fU R a a')(hv:VR S K R v v'):aG P S K lT (storeVar t a v) R (storeVar t a' v'):=by
 unfold storeVar;refine aG.bnd (Aq t) ?_;rintro R1 h1 n _ rfl;have hc:=hv.cells;rw[<-hc.1];split
 .exact .inl (bO.bnd _)
 .exact Yp _ _ 0 (h.mono h1.le) ((hc.mono h1.le).toList)
variable {c c':Array aF}
def zbQ (e:aM)(h:bK S K R c c'):aG P S K (λR a b=>fU R a b) (newRow e c) R (newRow e c'):=by
 unfold newRow;refine aG.bnd (zet (.cells h λo ho=>ho)) ?_;intro R1 h1 n n' hn;exact aG.ret (.mk hn)
def zrn (t:aM)(h:VR S K R v v'):aG P S K (λR a b=>fU R a b) (newVar t v) R (newVar t v'):=zbQ t h.cells
def zIS (t:aM)(h:bK S K R c c')(off:Nat):aG P S K (VA S K) (part t c off) R (part t c' off):=by
 unfold part;refine aG.bnd (zoM t) ?_;rintro R1 h1 b _ rfl
 cases b with
 |true=>
  simp only[if_true];refine aG.bnd (Aq t) ?_;rintro R2 h2 n _ rfl;exact aG.ret (VR.agg' (((h.mono h1.le).mono h2.le).extract _ _))
 |false=>
  simp only[jF,if_false]
  cases hc:c[off]? with
  |none=>exact .inl bO
  |some v=>obtain⟨v',J6,wI⟩:=(h.mono h1.le).get hc;rw[J6];exact aG.ret wI
end
section
variable {P:dL}{S:aO->Prop}{K:Pr}{α β γ δ:Type}{R:Pr}
def zBN (hz:Hz P S)(e:aM):aG P S K (VA S K) (zmI e true (.tuple #[])) R (zmI e true (.tuple #[])):=by
 unfold zmI;refine aG.bnd (Qd hz e) ?_;intro R1 h1 z z' pL;refine aG.bnd (zrn e pL) ?_;intro R2 h2 a a' ha;exact aG.ret (.pointer (.some ha))
variable {v v':aF}
def zHV (e:aM)(h:VR S K R v v'):aG P S K (VA S K) (zkm e v) R (zkm e v'):=by
 unfold zkm;refine aG.bnd (zrn e h) ?_;intro R2 h2 a a' ha;exact aG.ret (.pointer (.some ha))
def zy6 (t:aM)(h:VR S K R v v'):aG P S K (VA S K) (zlz t v) R (zlz t v'):=by
 unfold zlz;refine aG.bnd (zb5 h) ?_;intro R1 h1 a a' ha;exact zxx t ha
def zDV (t:aM){a a':aF}(h:VR S K R a a')(hv:VR S K R v v'):aG P S K lT (zjD t a v) R (zjD t a' v'):=by
 unfold zjD;refine aG.bnd (zb5 h) ?_;intro R1 h1 a a' ha;exact zBE t ha (hv.mono h1.le)
def zu3 {r r':Nat}(h:R r r'):aG P S K (λ_ a b=>a=none/\b=none) (viewAt r) R (viewAt r'):=by
 unfold viewAt;refine aG.bnd (za4 h) ?_;rintro R1 h1 x _ rfl
 cases x with
 |some x=>exact aG.ret ⟨rfl,rfl⟩
 |none=>
  refine aG.bnd (Sn (h1.le _ _ h)) ?_;intro R2 h2 o o' ho;cases ho<;>exact aG.ret ⟨rfl,rfl⟩
variable {a a':bL}
def zHa (h:fU R a a'):aG P S K lT (noView a) R (noView a'):=by
 cases h with
 |mk h=>
  unfold noView;refine aG.bnd (zu3 h) ?_;rintro R1 h1 _ _ ⟨rfl,rfl⟩;exact aG.ret rfl
def Uc (h:fU R a a'):aG P S K lT (byteOf a) R (byteOf a'):=by
 have h0:=h
 cases h with
 |mk h=>
  rename_i b b' o sp;unfold byteOf
  cases sp with
  |some s=>exact aG.ret rfl
  |none=>
   refine aG.bnd Rp ?_;rintro R1 h1 p q ⟨rfl,rfl⟩;refine aG.bnd (zHa (h0.mono h1.le)) ?_;rintro R2 h2 _ _ _;refine aG.bnd (za4 (h2.le _ _ (h1.le _ _ h))) ?_;rintro R3 h3 x _ rfl
   cases x with
   |none=>exact .inl bO
   |some x=>
    obtain⟨e,n⟩:=x;simp only[P.cells_g,P.bytes_g,P.depth_g,P.byteOfCell_g];split
    .exact aG.ret rfl
    .split
     .exact aG.ret rfl
     .exact .inl bO
def zJj (h:fU R a a')(c b:Nat):aG P S K (λR a b=>fU R a b) (partAt a c b) R (partAt a' c b):=by
 unfold partAt;refine aG.bnd (Uc h) ?_;rintro R1 h1 n _ rfl;have h':=h.mono h1.le
 cases h' with
 |mk h'=>
  refine aG.bnd (Uc (.mk h')) ?_;rintro R2 h2 m _ rfl;split<;>exact aG.ret (.mk (h2.le _ _ h'))
def zGC (h:fU R a a')(f:Field):aG P S K (λR a b=>fU R a b) (fieldPlace a f) R (fieldPlace a' f):=by
 unfold fieldPlace;refine aG.bnd (Aq f.type) ?_;rintro R1 h1 n _ rfl;split
 .exact zJj (h.mono h1.le) _ _
 .exact aG.ret ((h.mono h1.le).add _)
def zAG (s:aM)(h:VR S K R v v')(f:Nat):aG P S K (VA S K) (zk8 s v f) R (zk8 s v' f):=by
 unfold zk8;refine aG.bnd (lY s) ?_;rintro R1 h1 d _ ⟨rfl,hd⟩
 cases d with
 |struct fields=>
  simp only
  cases hf:fields[f]? with
  |none=>exact .inl bO
  |some fl=>
   refine aG.bnd (zb5 (h.mono h1.le)) ?_;intro R2 h2 a a' ha;refine aG.bnd (zGC ha fl) ?_;intro R3 h3 b b' hb;exact aG.ret (.pointer (.some hb))
 |_=>exact .inl bO
def zlD (t:aM)(k:Ez)(i:Int)(b:Option bL)(len:Nat)(elem:aM):cU Value:=do
 let tiny:=len<=1&&(match<-underlying t with| .array .. =>true|_=>false)
 match b with
 |some a=>
  if 0<=i/\i<len then pure (.pointer (some (a.add (i.toNat*(<-sizeOf elem)))))
  else if tiny then unsupported (.noEntry "op/indexAddr.an index out of range at an array of length 0 or 1 (ledger 616)")
  else boundsPanic k i len .index
 |none=>boundsPanic k i 0 .index
def zwd (t:aM)(k:Ez)(i:Int){b b':Option bL}(h:wU R b b')(len:Nat)(elem:aM):aG P S K (VA S K) (zlD t k i b len elem) R (zlD t k i b' len elem):=by
 unfold zlD;refine aG.bnd (lY t) ?_;rintro R3 h3 d _ ⟨rfl,hd⟩;have bZ:=h.mono h3.le
 cases bZ with
 |none=>exact .inl Wl
 |some ha=>
  simp only;split
  .refine aG.bnd (Aq elem) ?_
   rintro R4 h4 sz _ rfl;exact aG.ret (.pointer (.some ((ha.mono h4.le).add _)))
  .refine .inl ?_
   split<;>first|exact lF|exact Wl|(split<;>first|exact lF|exact Wl)
def zEV (t:aM){i i':aF}(h:VR S K R v v')(hi:VR S K R i i'):aG P S K (VA S K) (zlv t v i) R (zlv t v' i'):=by
 unfold zlv;refine aG.bnd (zew hi) ?_;rintro R1 h1 ⟨k,n⟩ _ rfl;refine aG.bnd (lY t) ?_;rintro R2 h2 d _ ⟨rfl,hd⟩;have hv:=(h.mono h1.le).mono h2.le
 cases d with
 |array len elem=>
  refine aG.bnd (zb5 hv) ?_;intro R3 h3 a a' ha;exact zwd t k n (.some ha) len elem
 |slice elem=>
  cases hv with
  |slice ho=>exact zwd t k n ho _ elem
  |_=>exact .inl (bO.bnd _)
 |_=>exact .inl (bO.bnd _)
def zII (t:aM){i i':aF}(h:VR S K R v v')(hi:VR S K R i i'):aG P S K (VA S K) (ziv t v i) R (ziv t v' i'):=by
 unfold ziv;refine aG.bnd (zew hi) ?_;rintro R1 h1 ⟨k,n⟩ _ rfl;refine aG.bnd (lY t) ?_;rintro R2 h2 d _ ⟨rfl,hd⟩;have hv:=(h.mono h1.le).mono h2.le
 cases d with
 |array len elem=>
  cases hv with
  |agg e hc=>
   simp only;split
   .refine aG.bnd (Aq elem) ?_
    rintro R3 h3 sz _ rfl;exact zIS elem (bK.mono h3.le ⟨e,hc⟩) _
   .exact .inl Wl
  |_=>exact .inl bO
 |string=>
  cases hv with
  |string s=>
   simp only;split
   .exact aG.ret (.int _ _)
   .exact .inl Wl
  |_=>exact .inl bO
 |_=>exact .inl bO
def zba (h:VR S K R v v')(y:Nat)(c:zkX):aG P S K lT (Mf v y c) R (Mf v' y c):=by
 unfold Mf;refine aG.bnd (zew h) ?_;rintro R1 h1 ⟨k,n⟩ _ rfl;simp only;split
 .exact aG.ret rfl
 .exact .inl Wl
inductive zF (S:aO->Prop)(K R:Pr):Option aF->Option aF->Prop
 |none:zF S K R none none
 |some {v v':aF}:VR S K R v v'->zF S K R (some v) (some v')
def zF.mono {R':Pr}(h:R.le R'){v v':Option aF}(x:zF S K R v v'):zF S K R' v v':=by cases x with|none=>exact .none|some x=>exact .some (x.mono h)
variable {xX gT Wy:Option aF}
def zg7 (b:Bool)(len cap:Nat){lo hi mx:Option aF}(hl:zF S K R lo xX)(hh:zF S K R hi gT)(hm:zF S K R mx Wy):
 aG P S K lT (Vu b len cap lo hi mx) R (Vu b len cap xX gT Wy):=by
 have nd:∀{R1:Pr},xV P K R R1->∀(m h:Nat) (c:zkX),aG P S K (lT (α:=Nat×Nat×Nat)) (match lo with|some v=>(do let l<-Mf v h c;pure (l,h,m))|none=>pure (0,h,m)) R1 (match xX with|some v=>(do let l<-Mf v h c;pure (l,h,m))|none=>pure (0,h,m)):=by
  intro R1 h1 m h c
  cases hl with
  |none=>exact aG.ret rfl
  |some z=>
   refine aG.bnd (zba (z.mono h1.le) h c) ?_;rintro R2 h2 l _ rfl;exact aG.ret rfl
 unfold Vu
 cases hm with
 |none=>
  cases hh with
  |none=>cases hl with
   |none=>exact aG.ret rfl
   |some z=>exact nd (xV.refl R) cap len (if(none:Option aF).isSome then .slice3C else .sliceB)
  |some x=>
   refine aG.bind (α:=Nat) (A:=lT) (s:=Mf _ cap (if b then .sliceAcap else .sliceAlen)) (s':=Mf _ cap (if b then .sliceAcap else .sliceAlen)) (zba x _ _) ?_;rintro R2 h2 h _ rfl
   cases hl with
   |none=>exact aG.ret rfl
   |some z=>exact nd h2 cap h (if(none:Option aF).isSome then .slice3C else .sliceB)
 |some y=>
  refine aG.bnd (zba y _ _) ?_;rintro R1 h1 m _ rfl
  cases hh with
  |none=>exact .inl (bO.bnd _)
  |some x=>
   refine aG.bnd (zba (x.mono h1.le) _ _) ?_;rintro R2 h2 h _ rfl
   cases hl with
   |none=>exact aG.ret rfl
   |some z=>
    refine aG.bnd (zba ((z.mono h1.le).mono h2.le) _ _) ?_;rintro R3 h3 l _ rfl;exact aG.ret rfl
def zBV (t:aM){lo hi mx:Option aF}(h:VR S K R v v')(hl:zF S K R lo xX)(hh:zF S K R hi gT)(hm:zF S K R mx Wy):
 aG P S K (VA S K) (Yk t v lo hi mx) R (Yk t v' xX gT Wy):=by
 unfold Yk;refine aG.bnd (lY t) ?_;rintro R1 h1 d _ ⟨rfl,hd⟩;have hv:=h.mono h1.le
 cases d with
 |string=>
  cases hv with
  |string s=>
   simp only
   cases hm with
   |some y=>exact .inl (bO.bnd _)
   |none=>
    refine aG.bnd (zg7 _ _ _ (hl.mono h1.le) (hh.mono h1.le) .none) ?_;rintro R2 h2 ⟨l,h,m⟩ _ rfl;exact aG.ret (.string _)
  |_=>exact .inl bO
 |slice elem=>
  cases hv with
  |slice ho=>
   refine aG.bnd (zg7 _ _ _ (hl.mono h1.le) (hh.mono h1.le) (hm.mono h1.le)) ?_;rintro R2 h2 ⟨l,h,m⟩ _ rfl;refine aG.bnd (Aq elem) ?_;rintro R3 h3 sz _ rfl;refine aG.ret (.slice ?_);split
   .exact(ho.mono h2.le).mono h3.le
   .exact((ho.mono h2.le).mono h3.le).map _
  |_=>exact .inl bO
 |pointer arr=>
  refine aG.bnd (zwX hv) ?_;intro R2 h2 a a' ha;refine aG.bnd (lY arr) ?_;rintro R3 h3 d _ ⟨rfl,hd⟩
  cases d with
  |array n elem=>
   refine aG.bnd (zg7 _ _ _ (((hl.mono h1.le).mono h2.le).mono h3.le) (((hh.mono h1.le).mono h2.le).mono h3.le) (((hm.mono h1.le).mono h2.le).mono h3.le)) ?_;rintro R4 h4 ⟨l,h,m⟩ _ rfl;refine aG.bnd (Aq elem) ?_;rintro R5 h5 sz _ rfl;refine aG.ret (.slice (.some ?_));have fI:=((ha.mono h3.le).mono h4.le).mono h5.le;split
   .exact fI
   .exact fI.add _
  |_=>exact .inl bO
 |_=>exact .inl bO
def zJA (t:aM){lo hi mx:Option aF}(h:VR S K R v v')(hl:zF S K R lo xX)(hh:zF S K R hi gT)(hm:zF S K R mx Wy):
 aG P S K (VA S K) (X4 t v lo hi mx) R (X4 t v' xX gT Wy):=by
 unfold X4;refine aG.bnd (lY t) ?_;rintro R1 h1 d _ ⟨rfl,hd⟩
 cases d with
 |array n elem=>
  refine aG.bnd (zb5 (h.mono h1.le)) ?_;intro R2 h2 a a' ha;refine aG.bnd (zg7 _ _ _ ((hl.mono h1.le).mono h2.le) ((hh.mono h1.le).mono h2.le) ((hm.mono h1.le).mono h2.le)) ?_;rintro R4 h4 ⟨l,h,m⟩ _ rfl;refine aG.bnd (Aq elem) ?_;rintro R5 h5 sz _ rfl;refine aG.ret (.slice (.some ?_));have fI:=(ha.mono h4.le).mono h5.le;split
  .exact fI
  .exact fI.add _
 |_=>exact zBV t (h.mono h1.le) (hl.mono h1.le) (hh.mono h1.le) (hm.mono h1.le)
def zI5 (h:VR S K R v v')(i:Nat):aG P S K (VA S K) (zmF v i) R (zmF v' i):=by
 unfold zmF
 cases h with
 |tuple e hc=>
  rename_i xs bY;simp only
  cases hq:xs[i]? with
  |none=>exact .inl bO
  |some u=>
   obtain⟨u',Mv,zao⟩:=bK.get ⟨e,hc⟩ hq;rw[Mv];exact aG.ret zao
 |_=>exact .inl bO
def zHW (t:aM){r r':Option aF}(h:zF S K R r r'):aG P S K (VA S K) (ziG t r) R (ziG t r'):=by
 have fin:∀{R1:Pr},aG P S K (VA S K) (do pure (.map (some (<-newObj (.map #[] 0))))) R1 (do pure (.map (some (<-newObj (.map #[] 0))))):=by
  intro R1;refine aG.bnd (zet (.map ⟨rfl,λi e e' h=>by simp at h⟩)) ?_;intro R2 h2 n n' hn;exact aG.ret (.map (.some hn))
 unfold ziG
 cases h with
 |none=>exact fin
 |some x=>
  refine aG.bnd (lY t) ?_;rintro R1 h1 d _ ⟨rfl,hd⟩
  cases d with
  |map k e=>
   refine aG.bnd (Ye (x.mono h1.le)) ?_;rintro R2 h2 n _ rfl;exact fin
  |_=>exact .inl (bO.bnd _)
def zGk (t:aM)(h:VR S K R v v'):aG P S K (VA S K) (zns t v) R (zns t v'):=by
 unfold zns;refine aG.bnd (Ye h) ?_;rintro R1 h1 n _ rfl;refine aG.bnd (lY t) ?_;rintro R2 h2 d _ ⟨rfl,hd⟩
 cases d with
 |chan dir elem=>
  refine aG.bnd (D5 elem) ?_;rintro R3 h3 inf _ ⟨rfl,hi⟩;simp only;split
  .exact .inl (vK.bnd _)
  .refine aG.bnd (zet (.chan bK.empty)) ?_
   intro R4 h4 n n' hn;exact aG.ret (.chan (.some (.inl hn)))
 |_=>exact .inl bO
end
section
variable {P:dL}{S:aO->Prop}{K:Pr}{α β γ δ:Type}{R:Pr}
def Eb.eq_iff {R:Pr}(inj:∀a b c,R a b->R a c->b=c)(inj':∀a b c,R a c->R b c->a=b){a a' b b':Option Nat}(h:Eb R a a')(h':Eb R b b'):(a==b)=(a'==b'):=by
 cases h with
 |none=>cases h' with
  |none=>rfl
  |some y=>rfl
 |some x=>cases h' with
  |none=>rfl
  |some y=>
   rename_i p p' q q';rw[Ns];simp only[beq_iff_eq,fT];exact⟨λe=>inj _ _ _ (e▸x) y,λe=>inj' _ _ _ (e▸x) y⟩
variable {r r':Nat}
def zjz (h:R r r'):aG P S K (λR a b=>(a=none/\b=none)\/∃x x' l,a=some (x,l)/\b=some (x',l)/\fU R x x') (numberAt r) R (numberAt r'):=by
 unfold numberAt;refine aG.bnd (za4 h) ?_;rintro R1 h1 x _ rfl
 cases x with
 |some x=>exact aG.ret (.inl ⟨rfl,rfl⟩)
 |none=>
  refine aG.bnd (Sn (h1.le _ _ h)) ?_;intro R2 h2 o o' ho
  cases ho with
  |number ha=>exact aG.ret (.inr ⟨_,_,_,rfl,rfl,ha⟩)
  |_=>exact aG.ret (.inl ⟨rfl,rfl⟩)
variable {a a':bL}
def zuA (h:fU R a a'):aG P S K (λR x y=>fU R x.1 y.1) (behindNumber a) R (behindNumber a'):=by
 have h0:=h
 cases h with
 |mk h=>
  unfold behindNumber;refine aG.bnd (zjz h) ?_;rintro R1 h1 x y (⟨rfl,rfl⟩|⟨p,p',l,rfl,rfl,hp⟩)
  .exact aG.ret (h0.mono h1.le)
  .exact aG.ret hp
def zbi:Zj->Bool
 | .bool| .int _| .string| .chan .. =>true
 |_=>false
def fU.block_eq (hR:tH P K R){b b':bL}(h:fU R a a')(h':fU R b b'):(a.block==b.block)=(a'.block==b'.block):=by
 cases h with
 |mk x=>
  cases h' with
  |mk y=>
   rw[Ns];simp only[beq_iff_eq];exact⟨λe=>hR.inj _ _ _ (.inl (e▸x)) (.inl y),λe=>hR.inj' _ _ _ (.inl (e▸x)) (.inl y)⟩
def zAQ (h:R r r'):aG P S K (λR' a b=>R'=R/\a=b) (shape r) R (shape r'):=.inr ⟨r',_,rfl,h,λx=>.inr ⟨x,rfl,rfl,rfl⟩⟩
def zGP (h:R r r'):aG P S K (λR' o o'=>R'=R/\oI S K R o o') (getObj r) R (getObj r'):=.inr ⟨r',_,rfl,.inl h,λo o' ho=>.inr ⟨o',rfl,rfl,ho⟩⟩
def zjG:aG P S K (λR' a b=>R'=R/\a=P.g/\b=P.c) program R program:=.inr ⟨_,rfl,.inr ⟨P.c,rfl,rfl,rfl,rfl⟩⟩
def zBI (h:R r r'):aG P S K (λR' a b=>R'=R/\((a=none/\b=none)\/∃x x' l,a=some (x,l)/\b=some (x',l)/\fU R x x')) (numberAt r) R (numberAt r'):=by
 unfold numberAt;refine aG.bnd (zAQ h) ?_;rintro R1 _ x _ ⟨rfl,rfl⟩
 cases x with
 |some x=>exact aG.ret ⟨rfl,.inl ⟨rfl,rfl⟩⟩
 |none=>
  refine aG.bnd (zGP h) ?_;rintro R2 _ o o' ⟨rfl,ho⟩
  cases ho with
  |number ha=>exact aG.ret ⟨rfl,.inr ⟨_,_,_,rfl,rfl,ha⟩⟩
  |_=>exact aG.ret ⟨rfl,.inl ⟨rfl,rfl⟩⟩
def zhl (h:fU R a a'):aG P S K (λR' x y=>R'=R/\fU R x.1 y.1) (behindNumber a) R (behindNumber a'):=by
 have h0:=h
 cases h with
 |mk h=>
  unfold behindNumber;refine aG.bnd (zBI h) ?_;rintro R1 _ x y ⟨rfl,⟨rfl,rfl⟩|⟨p,p',l,rfl,rfl,hp⟩⟩
  .exact aG.ret ⟨rfl,h0⟩
  .exact aG.ret ⟨rfl,hp⟩
def fU.low (hR:tH P K R)(h:fU R a a'):decide (a.block<P.globals.size)=decide (a'.block<P.globals.size):=by
 cases h with
 |mk x=>exact decide_eq_decide.2 (hR.low _ _ x)
def ziF (P:dL)(t:aM):Prop:=∀i x,P.info? t=some i->i.desc≠ .named "sync.copyChecker" x
def zA1 {t:aM}(hc:ziF P t)(hR:tH P K R){b b':bL}(ha:fU R a a')(hb:fU R b b'):
 aG P S K lT (do
  let(a,b):=((<-behindNumber a).1,(<-behindNumber b).1)
  if a.block==b.block&&a.block<(<-program).globals.size then return (<-byteOf a)==(<-byteOf b)
  let .named "sync.copyChecker" _:=(<-typeInfo t).desc|unsupported .addressObserved
  if a==b then pure true else unsupported .addressObserved) R (do
  let(a,b):=((<-behindNumber a').1,(<-behindNumber b').1)
  if a.block==b.block&&a.block<(<-program).globals.size then return (<-byteOf a)==(<-byteOf b)
  let .named "sync.copyChecker" _:=(<-typeInfo t).desc|unsupported .addressObserved
  if a==b then pure true else unsupported .addressObserved):=by
 refine aG.bnd (zhl ha) ?_;rintro R1 _ x y ⟨rfl,hx⟩;refine aG.bnd (zhl hb) ?_;rintro R2 _ u v ⟨rfl,hu⟩;refine aG.bnd zjG ?_;rintro R3 _ p q ⟨rfl,rfl,rfl⟩;rw[<-fU.block_eq hR hx hu,P.globals_g,<-fU.low hR hx];split
 .refine aG.bnd (Uc hx) ?_
  rintro R4 h4 m _ rfl;refine aG.bnd (Uc (hu.mono h4.le)) ?_;rintro R5 h5 m' _ rfl;exact aG.ret rfl
 .refine aG.bnd (D5 t) ?_
  rintro R4 h4 i _ ⟨rfl,hi⟩;refine .inl ?_;split
  .next e=>exact absurd e (hc i _ hi)
  .exact lF
def zAC (n:Nat)(t:aM)(d:Zj)(hd:P.underlying t=some d)(ok:zbi d=true)(hc:∀k,d=.int k->ziF P t)(hR:tH P K R){x x' y y':aF}(hx:VR S K R x x')(hy:VR S K R y y'):
 aG P S K lT (C0 (n+1) t x y) R (C0 (n+1) t x' y'):=by
 unfold C0;refine aG.bnd (A:=λR' a b=>R'=R/\a=b/\P.underlying t=some a) (by
  unfold underlying;refine aG.bnd zjG ?_;rintro R' _ a b ⟨rfl,ha,hb⟩;rw[ha,hb,P.underlying_g]
  cases h:P.c.underlying t with
  |some d=>exact aG.ret ⟨rfl,rfl,h⟩
  |none=>exact .inl bO) ?_
 rintro R1 _ d' _ ⟨rfl,rfl,Au⟩;obtain rfl:d'=d:=by rw[hd] at Au;injection Au with e;exact e.symm
 cases d' with
 |bool=>
  cases hx with
  |bool a=>cases hy with
   |bool b=>exact aG.ret rfl
   |_=>exact .inl bO
  |_=>first|exact .inl bO|(cases hy<;>exact .inl bO)
 |string=>
  cases hx with
  |string a=>cases hy with
   |string b=>exact aG.ret rfl
   |_=>exact .inl bO
  |_=>first|exact .inl bO|(cases hy<;>exact .inl bO)
 |chan dir el=>
  cases hx with
  |chan a=>cases hy with
   |chan b=>exact aG.ret (Eb.eq_iff hR.inj hR.inj' a b)
   |_=>exact .inl bO
  |_=>first|exact .inl bO|(cases hy<;>exact .inl bO)
 |int ik=>
  cases hx with
  |int k a=>cases hy with
   |int k' b=>
    simp only;split
    .exact aG.ret rfl
    .exact .inl bO
   |pointer q=>
    cases q with
    |none=>exact .inl zkj
    |some q=>
     by_cases h0:a=0
     .subst h0;exact aG.ret rfl
     .refine .inl ?_
      split<;>first|exact lF|exact bO|(exfalso;simp_all;done)
   |_=>exact .inl zhv
  |pointer p=>cases p with
   |none=>cases hy<;>first|exact .inl lF|exact .inl bO
   |some p=>
    cases hy with
    |int k' b=>
     by_cases h0:b=0
     .subst h0;exact aG.ret rfl
     .refine .inl ?_
      split<;>first|exact lF|exact bO|(exfalso;simp_all;done)
    |pointer q=>
     cases q with
     |none=>exact .inl zkj
     |some q=>exact zA1 (hc ik rfl) hR p q
    |_=>exact .inl zkj
  |_=>cases hy<;>first|exact .inl bO|exact .inl lF
 |_=>cases ok
end
section
variable {P:dL}{S:aO->Prop}{K:Pr}{α β γ δ:Type}{R:Pr}
def Mc (S:aO->Prop)(K R:Pr)(es fA:List o7):Prop:=es.length=fA.length/\∀(i:Nat) (e e':o7),es[i]? =some e->fA[i]? =some e'->Cq S K R e e'
variable {es fA:Array o7}
def qH.toList (h:qH S K R es fA):Mc S K R es.toList fA.toList:=⟨by simpa using h.1,λi e e' h1 h2=>h.2 i e e' Q9 Ts⟩
variable {e e':o7}
def Mc.cons {es fA:List o7}(h:Mc S K R (e::es) (e'::fA)):Cq S K R e e'/\Mc S K R es fA:=
 ⟨h.2 0 e e' rfl rfl,by simpa using h.1,λi a b h1 h2=>h.2 (i+1) a b Q9 Ts⟩
def Mc.mono {R':Pr}(hR:R.le R'){es fA:List o7}(h:Mc S K R es fA):Mc S K R' es fA:=⟨h.1,λi e e' h1 h2=>(h.2 i e e' h1 h2).mono hR⟩
def wU.eq_iff (hR:tH P K R){a a' b b':Option bL}(h:wU R a a')(h':wU R b b'):(a==b)=(a'==b'):=by
 cases h with
 |none=>cases h' with
  |none=>rfl
  |some y=>rfl
 |some x=>cases h' with
  |none=>rfl
  |some y=>
   cases x with
   |mk x=>
    cases y with
    |mk y=>
     rw[Ns];simp only[beq_iff_eq,fT,zl3];exact⟨λe=>⟨hR.inj _ _ _ (.inl (e.1▸x)) (.inl y),e.2⟩,λe=>⟨hR.inj' _ _ _ (.inl (e.1▸x)) (.inl y),e.2⟩⟩
def Flat:aF->Prop
 | .tuple _| .agg _| .iface _ _| .nilFunc=>False
 |_=>True
variable {x x' y:aF}
def zCK (hR:tH P K R)(n:Nat){y':aF}(fx:Flat x)(fy:Flat y)(hx:VR S K R x x')(hy:VR S K R y y'):Zz n x y=Zz n x' y':=by
 cases n<;>(
  cases hx with
  |pointer h1=>cases hy with
   |pointer h2=>exact wU.eq_iff hR h1 h2
   |junk h=>exact fy.elim
   |_=>rfl
  |chan h1=>cases hy with
   |chan h2=>exact Eb.eq_iff hR.inj hR.inj' h1 h2
   |junk h=>exact fy.elim
   |_=>rfl
  |junk h=>exact fx.elim
  |iface h1=>exact fx.elim
  |agg h1=>exact fx.elim
  |tuple h1=>exact fx.elim
  |_=>cases hy<;>first|rfl|exact fy.elim)
variable {t:aM}{d:Zj}
def zma (hd:P.underlying t=some d)(ok:zbi d=true)(h:¬(Flat x/\Flat y)):fC P (zW t x y):=by
 have e:zW t x y=C0 (9999+1) t x y:=rfl;rw[e];unfold C0;have hu:∀w,(underlying t).run P.g w=.ok d w:=λw=>by
  have:P.g.underlying t=some d:=hd;simp[underlying,program,bD,bind,cU.bind,pure,this]
 have key:∀{f:Zj->cU Bool},fC P (f d)->fC P (underlying t>>=f):=λ{f} hf w hw=>by
  obtain⟨h1,w1,h2,h3⟩:=hf w hw;refine⟨h1,w1,?_,h3⟩;have:=rK P.g (underlying t) f w;rw[hu] at this;exact this.trans h2
 refine key ?_;cases d<;>first|(cases ok;done)|skip
 all_goals(cases x<;>cases y<;>first
  |exact(h ⟨True.intro,True.intro⟩).elim
  |exact bO
  |exact lF
  |(split<;>first|exact bO|exact lF|(simp_all;done)))
def zIu {b:Bool}(h:wG d x y=some b):Flat x/\Flat y:=by
 cases x<;>cases d<;>first|(simp[wG] at h;done)|(cases y<;>first|exact⟨trivial,trivial⟩|(simp[wG] at h;done))
variable {k k':aF}
def zHY (d:Zj){e e':aF}(f1:Flat k)(f2:Flat e)(hk:VR S K R k k')(he:VR S K R e e'):wG d k e=wG d k' e':=by
 cases hk with
 |junk _=>exact f1.elim
 |int i n=>cases he with
  |int i n=>rfl
  |junk _=>exact f2.elim
  |_=>cases d<;>rfl
 |string s=>cases he with
  |string s=>rfl
  |junk _=>exact f2.elim
  |_=>cases d<;>rfl
 |bool s=>cases he with
  |bool s=>rfl
  |junk _=>exact f2.elim
  |_=>cases d<;>rfl
 |_=>cases d<;>rfl
inductive OfR (S:aO->Prop)(K R:Pr)(F:Nat->Prop):Option (Nat×aF)->Option (Nat×aF)->Prop
 |none:OfR S K R F none none
 |some {i:Nat} {v v':aF}:VR S K R v v'->F i->OfR S K R F (some (i,v)) (some (i,v'))
structure Kn (P:dL)(t:aM):Prop where
 ex:∃d,P.underlying t=some d/\zbi d=true
 nc:∀k,P.underlying t=some (.int k)->ziF P t
def znm (ht:Kn P t)(hR:tH P K R){y':aF}(hx:VR S K R x x')(hy:VR S K R y y'):aG P S K lT (zW t x y) R (zW t x' y'):=by
 obtain⟨d,hd,ok⟩:=ht.ex;have e:∀a b,zW t a b=C0 (9999+1) t a b:=λa b=>rfl;rw[e,e];exact zAC 9999 t d hd ok (λk e=>ht.nc k (e▸hd)) hR hx hy
def zJx (hd:P.underlying t=some d)(h:wG d x y=some false)(w:aE):(zW t x y).run P.g w=.ok false w:=by
 have e:zW t x y=C0 (9999+1) t x y:=rfl;have hg:P.g.underlying t=some d:=hd;have hu:(underlying t).run P.g w=.ok d w:=by simp[underlying,program,bD,bind,cU.bind,pure,hg]
 rw[e];unfold C0;refine(rK P.g (underlying t) _ w).trans ?_;rw[hu]
 cases x with
 |bool a=>
  cases d with
  |bool=>
   cases y with
   |bool b=>
    have h':(a==b)=false:=by simpa[wG] using h
    show bD P.g (pure (a==b)) w=_;rw[h'];rfl
   |_=>simp[wG] at h
  |_=>simp[wG] at h
 |string a=>
  cases d with
  |string=>
   cases y with
   |string b=>
    have h':(a==b)=false:=by simpa[wG] using h
    show bD P.g (pure (a==b)) w=_;rw[h'];rfl
   |_=>simp[wG] at h
  |_=>simp[wG] at h
 |int k a=>
  cases d with
  |int dk=>
   cases y with
   |int k' b=>
    simp only[wG] at h;split at h
    .next hk=>
     have h':(a==b)=false:=by simpa using h
     show bD P.g (if k=k' then pure (a==b) else stuck "==: kinds differ") w=_;rw[if_pos hk,h'];rfl
    .cases h
   |_=>simp[wG] at h
  |_=>simp[wG] at h
 |_=>cases d<;>simp[wG] at h
def zx2 (hd:P.underlying t=some d)(ok:zbi d=true)(hk:VR S K R k k'){F:Nat->Prop}:∀(es fA:List o7) (i:Nat),Mc S K R es fA->(∀j e,es[j]? =some e->Flat k->Flat e.key->F (i+j))->
 (Fx d k es i=none/\fC P (L0 t k es i))\/(Fx d k es i=none/\Fx d k' fA i=none)\/∃r r',Fx d k es i=some r/\Fx d k' fA i=some r'/\OfR S K R F r r'
 |[],[],i,h,_=>.inr (.inr ⟨_,_,rfl,rfl,.none⟩)
 |[],_::_,i,h,_=>by have:=h.1;simp at this
 |_::_,[],i,h,_=>by have:=h.1;simp at this
 |e::es,e'::fA,i,h,hF=>by
  obtain⟨h1,h2⟩:=h.cons
  cases h1 with
  |mk vA hv=>
   rename_i ek ek' ev ev' born;by_cases hf:Flat k/\Flat ek
   .unfold Fx
    simp only[<-zHY d hf.1 hf.2 hk vA]
    cases hs:wG d k ek with
    |none=>exact .inr (.inl ⟨rfl,rfl⟩)
    |some b=>cases b with
     |true=>exact .inr (.inr ⟨_,_,rfl,rfl,.some hv zwi⟩)
     |false=>
      rcases zx2 hd ok hk es fA (i+1) h2 (λj e he a b=>by have:=hF (j+1) e (by simpa using he) a b;rwa [show i+1+j=i+(j+1) by omega]) with⟨hq,hn⟩|hr
      .refine .inl ⟨hq,λw hw=>?_⟩
       obtain⟨hh,w1,q1,q2⟩:=hn w hw;refine⟨hh,w1,?_,q2⟩;unfold L0;refine(rK P.g _ _ w).trans ?_;rw[zJx hd hs w];exact q1
      .exact .inr hr
   .refine .inl ⟨?_,?_⟩
    .unfold Fx
     cases hs:wG d k ek with
     |none=>rfl
     |some b=>exact absurd (zIu hs) hf
    .unfold L0
     exact(zma hd ok hf).bnd _
def zvD (ht:Kn P t):∀(es fA:List o7) (i:Nat) {R:Pr} {k k':aF} {F:Nat->Prop},tH P K R->VR S K R k k'->Mc S K R es fA->(∀j e,es[j]? =some e->Flat k->Flat e.key->F (i+j))->
 aG P S K (λR' a b=>OfR S K R' F a b) (L0 t k es i) R (L0 t k' fA i)
 |[],[],i,R,k,k',F,hR,hk,h,hF=>aG.ret .none
 |[],_::_,i,R,k,k',F,hR,hk,h,hF=>by have:=h.1;simp at this
 |_::_,[],i,R,k,k',F,hR,hk,h,hF=>by have:=h.1;simp at this
 |e::es,e'::fA,i,R,k,k',F,hR,hk,h,hF=>by
  obtain⟨h1,h2⟩:=h.cons
  cases h1 with
  |mk vA hv=>
   rename_i ek ek' ev ev' born;by_cases hf:Flat k/\Flat ek
   rotate_left
   .obtain⟨d,hd,ok⟩:=ht.ex
    refine .inl ?_;unfold L0;exact(zma hd ok hf).bnd _
   unfold L0;refine aG.bnd (znm ht hR hk vA) ?_;rintro R1 hx b _ rfl
   cases b with
   |true=>exact aG.ret (.some (hv.mono hx.le) zwi)
   |false=>exact zvD ht es fA (i+1) (hx.ok hR) (hk.mono hx.le) (h2.mono hx.le) (λj e he a b=>by have:=hF (j+1) e (by simpa using he) a b;rwa [show i+1+j=i+(j+1) by omega])
variable {i:Nat}
def qH.get (h:qH S K R es fA)(hi:es[i]? =some e):∃e',fA[i]? =some e'/\Cq S K R e e':=by
 have:i<fA.size:=by rw[<-h.1];exact(dO.1 hi).1
 exact⟨_,mK this,h.2 i e _ hi (mK this)⟩
def qH.none (h:qH S K R es fA)(hi:es[i]? =none):fA[i]? =none:=by
 rw[zxv] at hi⊢;rw[<-h.1];exact hi
def qH.modify (h:qH S K R es fA)(i:Nat){f f':o7->o7}(hf:∀e e',Cq S K R e e'->Cq S K R (f e) (f' e')):qH S K R (es.modify i f) (fA.modify i f'):=by
 refine⟨by simpa using h.1,λk e e' h1 h2=>?_⟩;rw[zi3] at h1 h2;split at h1
 .next e1=>
  rw[if_pos e1] at h2
  cases q:es[k]? with
  |none=>rw[q] at h1;cases h1
  |some u=>
   obtain⟨u',q',r⟩:=h.get q;rw[q] at h1;rw[q'] at h2;cases h1;cases h2;exact hf _ _ r
 .next e1=>
  rw[if_neg e1] at h2;exact h.2 k e e' h1 h2
def qH.push (h:qH S K R es fA)(he:Cq S K R e e'):qH S K R (es.push e) (fA.push e'):=by
 refine⟨by simpa using h.1,λk a a' h1 h2=>?_⟩;rw[Wa] at h1 h2;rw[<-h.1] at h2;split at h1
 .next e1=>
  rw[if_pos e1] at h2;cases h1;cases h2;exact he
 .next e1=>
  rw[if_neg e1] at h2;exact h.2 k a a' h1 h2
def qH.erase (h:qH S K R es fA)(i:Nat):qH S K R (es.eraseIdxIfInBounds i) (fA.eraseIdxIfInBounds i):=by
 unfold Array.eraseIdxIfInBounds;split
 .next hi=>
  have gT:=h.1▸hi;rw[dif_pos gT];refine⟨by simp[h.1],λk a a' h1 h2=>?_⟩;rw[Array.getElem?_eraseIdx] at h1 h2;split at h1
  .next e1=>rw[if_pos e1] at h2;exact h.2 _ _ _ h1 h2
  .next e1=>rw[if_neg e1] at h2;exact h.2 _ _ _ h1 h2
 .next hi=>
  have gT:=h.1▸hi;rw[dif_neg gT];exact h
def zjS (ht:Kn P t)(hR:tH P K R)(hk:VR S K R k k'){es fA:List o7}(he:Mc S K R es fA):
 aG P S K (λR' a b=>OfR S K R' (λi=>Flat k/\∀e,es[i]? =some e->Flat e.key) a b) (Kb t k es) R (Kb t k' fA):=by
 unfold Kb;refine aG.bnd (lY t) ?_;rintro R1 h1 d _ ⟨rfl,hd⟩;obtain⟨d',Au,ok⟩:=ht.ex;obtain rfl:d'=d:=by rw[hd] at Au;injection Au with e;exact e.symm
 have hF:∀j e,es[j]? =some e->Flat k->Flat e.key->Flat k/\∀e,es[0+j]? =some e->Flat e.key:=λj e he a b=>⟨a,λe2 zdy=>by rw[qZ,he] at zdy;injection zdy with zdy;exact zdy▸b⟩;rcases zx2 (F:=λi=>Flat k/\∀e,es[i]? =some e->Flat e.key) hd ok (hk.mono h1.le) es fA 0 (he.mono h1.le) hF with⟨e1,hn⟩|⟨e1,e2⟩|⟨r,r',e1,e2,h⟩
 .rw[e1]
  exact .inl hn
 .rw[e1,e2]
  exact zvD ht es fA 0 (h1.ok hR) (hk.mono h1.le) (he.mono h1.le) hF
 .rw[e1,e2]
  exact aG.ret h
def zGt (n:Nat)(ht:Kn P t)(b:Bool)(k k':aF):aG P S K lT (Ft b (n+1) t k) R (Ft b (n+1) t k'):=by
 obtain⟨d,hd,ok⟩:=ht.ex;unfold Ft;refine aG.bnd (lY t) ?_;rintro R1 h1 d' _ ⟨rfl,Au⟩;obtain rfl:d'=d:=by rw[hd] at Au;injection Au with e;exact e.symm
 cases d' with
 |interface _=>cases ok
 |array _ _=>cases ok
 |struct _=>cases ok
 |_=>exact aG.ret rfl
def zfQ (ht:Kn P t)(b:Bool)(k k':aF):aG P S K lT (Ft b 10000 t k) R (Ft b 10000 t k'):=zGt 9999 ht b k k'
def zBa (hR:tH P K R){a a' b b':aF}(fa:Flat a)(fb:Flat b)(ha:VR S K R a a')(hb:VR S K R b b'):aG P S K (VA S K) (Pp a b) R (Pp a' b'):=by
 unfold Pp;rw[zCK hR 10000 fa fb ha hb];split
 .exact aG.ret hb
 .refine aG.bnd (zfj _) ?_
  rintro R1 h1 n _ rfl;refine aG.ret ?_;split
  .exact hb.mono h1.le
  .exact ha.mono h1.le
def qH.keyD (h:qH S K R es fA)(i:Nat)(hk:VR S K R k k'):VR S K R (((es[i]?).map (·.key)).getD k) (((fA[i]?).map (·.key)).getD k'):=by
 cases q:es[i]? with
 |none=>rw[h.none q];exact hk
 |some e=>
  obtain⟨e',q',r⟩:=h.get q;rw[q']
  cases r with
  |mk a b=>exact a
def zH6 (h:Flat k/\∀e,es.toList[i]? =some e->Flat e.key):Flat (((es[i]?).map (·.key)).getD k):=by
 cases q:es[i]? with
 |none=>exact h.1
 |some e=>exact h.2 e (by simpa using q)
def qH.isEmpty (h:qH S K R es fA):es.isEmpty=fA.isEmpty:=by simp[Array.isEmpty,h.1]
def zzM (hz:Hz P S)(ht:∀k e,P.underlying t=some (.map k e)->Kn P k)(hR:tH P K R)(hx:VR S K R x x')(hk:VR S K R k k')(c:Bool):
 aG P S K (VA S K) (zM t x k c) R (zM t x' k' c):=by
 unfold zM;refine aG.bnd (lY t) ?_;rintro R1 h1 d _ ⟨rfl,hd⟩
 cases d with
 |map kt el=>
  have hK:=ht kt el hd
  have tail:∀R2,xV P K R1 R2->∀es fA,qH S K R2 es fA->aG P S K (VA S K)
   (do
    Ft es.isEmpty 10000 kt k
    let r<-Kb kt k es.toList
    match r with
    |some (_,v)=>do let x<-pure (v,true);pure (if c=true then W9 #[x.fst,.bool x.snd] else x.fst)
    |none=>do let z<-zeroValue el;let x<-pure (z,false);pure (if c=true then W9 #[x.fst,.bool x.snd] else x.fst)) R2
   (do
    Ft fA.isEmpty 10000 kt k'
    let r<-Kb kt k' fA.toList
    match r with
    |some (_,v)=>do let x<-pure (v,true);pure (if c=true then W9 #[x.fst,.bool x.snd] else x.fst)
    |none=>do let z<-zeroValue el;let x<-pure (z,false);pure (if c=true then W9 #[x.fst,.bool x.snd] else x.fst)):=by
   intro R2 h2 es fA he;rw[he.isEmpty];refine aG.bnd (zfQ hK _ _ _) ?_;rintro R3 h3 _ _ rfl;have Xv:=h3.ok (h2.ok (h1.ok hR));have Ik:=((hk.mono h1.le).mono h2.le).mono h3.le;have fin:∀{R5:Pr} {v v':aF} {b:Bool},VR S K R5 v v'->aG P S K (VA S K) (do let x<-pure (v,b);pure (if c=true then W9 #[x.fst,.bool x.snd] else x.fst)) R5 (do let x<-pure (v',b);pure (if c=true then W9 #[x.fst,.bool x.snd] else x.fst)):=by
    intro R5 v v' b hv;refine aG.bnd (aG.ret (A:=λR (a b:aF×Bool)=>VR S K R a.1 b.1/\a.2=b.2) ⟨hv,rfl⟩) ?_;rintro R5 h5 ⟨v,b⟩ ⟨v',b'⟩ ⟨hv,e⟩;cases e
    cases c with
    |true=>exact aG.ret (VR.tuple' ((bK.empty.push hv).push (.bool b)))
    |false=>exact aG.ret hv
   refine aG.bnd (zjS hK Xv Ik (he.mono h3.le).toList) ?_;intro R4 h4 r r' hr
   cases hr with
   |some hv=>exact fin hv
   |none=>
    refine aG.bnd (Qd hz el) ?_;intro R5 h5 z z' pL;exact fin pL
  cases hx with
  |map h=>
   cases h with
   |none=>exact aG.bnd (aG.ret (A:=λR a b=>qH S K R a b) ⟨rfl,λi e e' h=>by simp at h⟩) tail
   |some h=>
    refine aG.bnd (Sn (h1.le _ _ h)) ?_;intro R2 h2 o o' ho
    cases ho with
    |map he=>exact aG.bnd (aG.ret (A:=λR a b=>qH S K R a b) he) (λR3 h3 es fA he=>tail R3 (h2.trans h3) es fA he)
    |_=>exact .inl (bO.bnd _)
  |_=>exact .inl (bO.bnd _)
 |_=>exact .inl bO
def zzn (ht:∀k e,P.underlying t=some (.map k e)->Kn P k)(hR:tH P K R){v v':aF}(hx:VR S K R x x')(hk:VR S K R k k')(hv:VR S K R v v'):
 aG P S K lT (G2 t x k v) R (G2 t x' k' v'):=by
 unfold G2;refine aG.bnd (lY t) ?_;rintro R1 h1 d _ ⟨rfl,hd⟩
 cases d with
 |map kt el=>
  have hK:=ht kt el hd
  cases hx with
  |map h=>
   cases h with
   |none=>exact .inl vK
   |some h=>
    refine aG.bnd (Sn (h1.le _ _ h)) ?_;intro R2 h2 o o' ho
    cases ho with
    |map he=>
     rename_i cl;refine aG.bnd (zfQ hK _ _ _) ?_;rintro R3 h3 _ _ rfl;have Xv:=h3.ok (h2.ok (h1.ok hR));have Ik:=((hk.mono h1.le).mono h2.le).mono h3.le;have Rz:=h3.le _ _ (h2.le _ _ (h1.le _ _ h));have Lc:=((hv.mono h1.le).mono h2.le).mono h3.le;refine aG.bnd (zjS hK Xv Ik (he.mono h3.le).toList) ?_;intro R4 h4 r r' hr
     cases hr with
     |some hq zeJ=>
      refine aG.bnd (zBa (h4.ok Xv) (zH6 zeJ) zeJ.1 (((he.mono h3.le).mono h4.le).keyD _ (Ik.mono h4.le)) (Ik.mono h4.le)) ?_;intro R5 h5 kk Je fO;refine zaB (h5.le _ _ (h4.le _ _ Rz)) (.map (qH.modify (((he.mono h3.le).mono h4.le).mono h5.le) _ ?_));intro e e' zCt
      cases zCt with
      |mk a b=>exact .mk fO ((Lc.mono h4.le).mono h5.le)
     |none=>exact zaB (h4.le _ _ Rz) (.map (qH.push ((he.mono h3.le).mono h4.le) (.mk (Ik.mono h4.le) (Lc.mono h4.le))))
    |_=>exact .inl bO
  |_=>exact .inl bO
 |_=>exact .inl bO
end
section
variable {P:dL}{S:aO->Prop}{K:Pr}{α β γ δ:Type}{R:Pr}
variable {xs bY:Array aF}
def bK.opt (h:bK S K R xs bY)(i:Nat):zF S K R xs[i]? bY[i]? :=by
 cases q:xs[i]? with
 |none=>rw[h.none q];exact .none
 |some v=>obtain⟨v',q',hv⟩:=h.get q;rw[q'];exact .some hv
def zAb (ts:Array aM)(t:aM)(h:bK S K R xs bY):aG P S K (VA S K) (zhI ts t xs) R (zhI ts t bY):=by
 unfold zhI
 cases ts[0]? with
 |none=>exact .inl bO
 |some t=>
  have ho:=h.opt 0;generalize xs[0]? =o at ho;generalize bY[0]? =o' at ho
  cases ho with
  |none=>exact .inl bO
  |some hv=>
   simp only;refine aG.bnd (lY t) ?_;rintro R1 h1 d _ ⟨rfl,hd⟩
   cases d with
   |string=>cases hv with
    |string s=>exact aG.ret (.int _ _)
    |_=>exact .inl bO
   |array n e=>exact aG.ret (.int _ _)
   |pointer arr=>
    refine aG.bnd (lY arr) ?_;rintro R2 h2 d2 _ ⟨rfl,z8⟩
    cases d2 with
    |array n e=>exact aG.ret (.int _ _)
    |_=>exact .inl bO
   |slice e=>cases hv with
    |slice _=>exact aG.ret (.int _ _)
    |_=>exact .inl bO
   |map k e=>cases hv with
    |map hm=>cases hm with
     |none=>exact aG.ret (.int _ _)
     |some hm=>
      refine aG.bnd (Sn (h1.le _ _ hm)) ?_;intro R2 h2 o o' ho
      cases ho with
      |map he=>simp only;rw[he.1];exact aG.ret (.int _ _)
      |_=>exact .inl bO
    |_=>exact .inl bO
   |chan k e=>cases hv with
    |chan hm=>cases hm with
     |none=>exact aG.ret (.int _ _)
     |some hm=>
      refine aG.bnd (zx3 (hm.imp (h1.le _ _) id)) ?_;intro R2 h2 o o' ho
      cases ho with
      |chan he=>simp only;rw[he.1];exact aG.ret (.int _ _)
      |_=>exact .inl bO
    |_=>exact .inl bO
   |_=>exact .inl bO
def zB2 (ts:Array aM)(t:aM)(h:bK S K R xs bY):aG P S K (VA S K) (zkO ts t xs) R (zkO ts t bY):=by
 unfold zkO
 cases ts[0]? with
 |none=>exact .inl bO
 |some t=>
  have ho:=h.opt 0;generalize xs[0]? =o at ho;generalize bY[0]? =o' at ho
  cases ho with
  |none=>exact .inl bO
  |some hv=>
   simp only;refine aG.bnd (lY t) ?_;rintro R1 h1 d _ ⟨rfl,hd⟩
   cases d with
   |array n e=>exact aG.ret (.int _ _)
   |pointer arr=>
    refine aG.bnd (lY arr) ?_;rintro R2 h2 d2 _ ⟨rfl,z8⟩
    cases d2 with
    |array n e=>exact aG.ret (.int _ _)
    |_=>exact .inl bO
   |slice e=>cases hv with
    |slice _=>exact aG.ret (.int _ _)
    |_=>exact .inl bO
   |chan k e=>cases hv with
    |chan hm=>cases hm with
     |none=>exact aG.ret (.int _ _)
     |some hm=>
      refine aG.bnd (zx3 (hm.imp (h1.le _ _) id)) ?_;intro R2 h2 o o' ho
      cases ho with
      |chan he=>exact aG.ret (.int _ _)
      |_=>exact .inl bO
    |_=>exact .inl bO
   |_=>exact .inl bO
variable {ts:Array aM}
def zCS (t:aM)(ht:∀mt k e,ts[0]? =some mt->P.underlying mt=some (.map k e)->Kn P k)(hR:tH P K R)(h:bK S K R xs bY):
 aG P S K (VA S K) (Lh ts t xs) R (Lh ts t bY):=by
 unfold Lh
 cases e0:ts[0]? with
 |none=>exact .inl bO
 |some mt=>
  have ho:=h.opt 0;have yE:=h.opt 1;generalize xs[0]? =o at ho;generalize bY[0]? =o' at ho;generalize xs[1]? =p at yE;generalize bY[1]? =p' at yE
  cases ho with
  |none=>exact .inl bO
  |some hm=>
   cases yE with
   |none=>exact .inl bO
   |some hk=>
    simp only;refine aG.bnd (lY mt) ?_;rintro R1 h1 d _ ⟨rfl,hd⟩
    cases d with
    |map kt el=>
     have hK:=ht mt kt el e0 hd;have fin:∀{R2:Pr},aG P S K (VA S K) (pure (.tuple #[])) R2 (pure (.tuple #[])):=aG.ret (VR.tuple' bK.empty)
     cases hm with
     |map hm=>
      cases hm with
      |none=>exact aG.bnd (zfQ hK _ _ _) (λ_ _ _ _ _=>fin)
      |some hm=>
       refine aG.bnd (Sn (h1.le _ _ hm)) ?_;intro R2 h2 o o' ho
       cases ho with
       |map he=>
        simp only;rw[he.isEmpty];refine aG.bnd (zfQ hK _ _ _) ?_;rintro R3 h3 _ _ rfl;have Xv:=h3.ok (h2.ok (h1.ok hR));have Ik:=((hk.mono h1.le).mono h2.le).mono h3.le;have Rz:=h3.le _ _ (h2.le _ _ (h1.le _ _ hm));refine aG.bnd (zjS hK Xv Ik (he.mono h3.le).toList) ?_;intro R4 h4 r r' hr
        cases hr with
        |some hq=>exact aG.bnd (zaB (h4.le _ _ Rz) (.map (((he.mono h3.le).mono h4.le).erase _))) (λ_ _ _ _ _=>fin)
        |none=>exact aG.bnd (zaB (h4.le _ _ Rz) (.map ((he.mono h3.le).mono h4.le))) (λ_ _ _ _ _=>fin)
       |_=>exact .inl (bO.bnd _)
     |_=>exact .inl (bO.bnd _)
    |_=>exact .inl bO
variable {x':aF}
def zpT {x:aF}(h:VR S K R x x'):aG P S K lT (zyv x) R (zyv x'):=by
 cases h with
 |slice _=>exact aG.ret rfl
 |string s=>exact aG.ret rfl
 |_=>exact .inl bO
def zaf (size n:Nat){x:aF}(h:VR S K R x x'):aG P S K (λR a b=>bK S K R a b) (Uz size n x) R (Uz size n x'):=by
 cases h with
 |slice ha=>cases ha with
  |none=>exact aG.ret bK.empty
  |some ha=>exact zkW ha _
 |string s=>
  refine aG.ret ⟨rfl,λi v v' h1 h2=>?_⟩;rw[h1] at h2;injection h2 with e;subst e;rw[x7] at h1
  cases q:(s.extract 0 n).data[i]? with
  |none=>rw[q] at h1;cases h1
  |some b=>rw[q] at h1;cases h1;exact .int _ _
 |_=>exact .inl bO
def zdo {z z':Array aF}(h:bK S K R z z')(n:Nat):bK S K R (pZ z n) (pZ z' n):=by
 refine⟨by simp[pZ,h.1],λi v v' h1 h2=>?_⟩;unfold pZ at h1 h2;rw[x7] at h1 h2;rw[<-h.1] at h2
 cases q:(Lx (n*z.size))[i]? with
 |none=>rw[q] at h1;cases h1
 |some j=>
  rw[q] at h1 h2;cases h1;cases h2
  cases q1:z[j%z.size]? with
  |none=>
   have q2:=h.none q1;show VR S K R (z[j%z.size]!) (z'[j%z.size]!);rw[getElem!_def,getElem!_def,q1,q2];exact .bool false
  |some u=>
   obtain⟨u',q2,hu⟩:=h.get q1;show VR S K R (z[j%z.size]!) (z'[j%z.size]!);rw[getElem!_def,getElem!_def,q1,q2];exact hu
def zz6 {A:Pr->γ->δ->Prop}{F:Bool->cU γ}{F':Bool->cU δ}(o:Option aM)(hi:∀xt d,o=some xt->P.underlying xt=some d->∀k,d≠ .int k)(hF:∀R3,xV P K R R3->aG P S K A (F false) R3 (F' false)):
 aG P S K A (match(generalizing:=false) o with|some xt=>do let l<-underlying xt;let zeros<-pure (match l with| .int k=>true|x=>false);F zeros|none=>do let zeros<-pure false;F zeros) R
  (match(generalizing:=false) o with|some xt=>do let l<-underlying xt;let zeros<-pure (match l with| .int k=>true|x=>false);F' zeros|none=>do let zeros<-pure false;F' zeros):=by
 cases o with
 |none=>
  refine aG.bnd (aG.ret (A:=λ_ a b=>a=false/\b=false) ⟨rfl,rfl⟩) ?_;rintro R3 h3 _ _ ⟨rfl,rfl⟩;exact hF R3 h3
 |some xt=>
  refine aG.bnd (lY xt) ?_;rintro R3 h3 d _ ⟨rfl,zeQ⟩;have e:∀d:Zj,(∀k,d≠ .int k)->(match d with| .int k=>true|x=>false)=false:=by
   intro d h;cases d<;>first|rfl|exact absurd rfl (h _)
  refine aG.bnd (A:=λ_ a b=>a=false/\b=false) (aG.ret ⟨e d (hi xt d rfl zeQ),e d (hi xt d rfl zeQ)⟩) ?_;rintro R4 h4 _ _ ⟨rfl,rfl⟩;exact hF R4 (h3.trans h4)
def zEj (hz:Hz P S)(t:aM)(hi:∀xt d,ts[1]? =some xt->P.underlying xt=some d->∀k,d≠ .int k)(h:bK S K R xs bY):
 aG P S K (VA S K) (xF ts t xs) R (xF ts t bY):=by
 unfold xF
 cases e0:ts[0]? with
 |none=>exact .inl bO
 |some st=>
  have ho:=h.opt 0;have yE:=h.opt 1;generalize xs[0]? =o at ho;generalize bY[0]? =o' at ho;generalize xs[1]? =p at yE;generalize bY[1]? =p' at yE
  cases ho with
  |none=>exact .inl bO
  |some hs=>
   cases yE with
   |none=>exact .inl bO
   |some hx=>
    rename_i s s' x x';simp only;refine aG.bnd (lY st) ?_;rintro R1 h1 d _ ⟨rfl,hd⟩
    cases d with
    |slice elem=>
     cases hs with
     |slice hb=>
      rename_i b b' n c;refine aG.bnd (Aq elem) ?_;rintro R2 h2 size _ rfl;have rF:=(hb.mono h1.le).mono h2.le;have Af:=(hx.mono h1.le).mono h2.le;refine zz6 ts[1]? hi ?_;intro R3 h3;simp only[Bool.not_false,if_true,jF,if_false,false_or];refine aG.bnd (zpT (Af.mono h3.le)) ?_;rintro R4 h4 m _ rfl;have Pk:=(rF.mono h3.le).mono h4.le;have zpX:=(Af.mono h3.le).mono h4.le;split
      .refine aG.bnd (zaf size m zpX) ?_
       intro R5 h5 w w' hw;have zbr:=Pk.mono h5.le
       cases zbr with
       |none=>exact aG.ret (.slice .none)
       |some ha=>
        refine aG.bnd (Yp _ _ 0 (ha.add _) hw.toList) ?_;rintro R6 h6 _ _ rfl;exact aG.ret (.slice (.some (ha.mono h6.le)))
      .refine aG.bnd (D5 elem) ?_
       rintro R5 h5 inf _ ⟨rfl,zKt⟩;split
       .exact .inl (vK.bnd _)
       .refine aG.bnd (D5 elem) ?_
        rintro R6 h6 zDI _ ⟨rfl,zyA⟩;have tX:=(Pk.mono h5.le).mono h6.le;have zpD:=(zpX.mono h5.le).mono h6.le;split
        .refine .inl (fC.bnd (fC.then (zJJ _ _ _ _ _) λsh=>?_) _)
         split
         .exact fC.then (zCX _) λ_=>lF
         .exact lF
        .refine aG.bnd (zfj _) ?_
         rintro R7 h7 nc _ rfl;refine aG.bnd (D5 elem) ?_;rintro R8 h8 zzg _ ⟨rfl,zCj⟩;refine aG.bnd (zi0 _) ?_;rintro R9 h9 _ _ rfl;have x4:=((tX.mono h7.le).mono h8.le).mono h9.le;have zFG:=((zpD.mono h7.le).mono h8.le).mono h9.le;refine aG.bnd (zaf size n (.slice x4)) ?_;intro zGT Hg o o' ho;refine aG.bnd (zaf size m (zFG.mono Hg.le)) ?_;intro zFh S6 w w' hw;refine aG.bnd (Qd hz elem) ?_;intro zC4 zak z z' pL;refine aG.bnd (zbQ elem (((ho.mono (S6.trans zak).le).append (hw.mono zak.le)).append (zdo pL.cells _))) ?_;intro zHs zCb r r' hr;exact aG.ret (.slice (.some hr))
     |_=>exact .inl bO
    |_=>exact .inl bO
def zyU (ts:Array aM)(t:aM)(h:bK S K R xs bY):aG P S K (VA S K) (C4 ts t xs) R (C4 ts t bY):=by
 unfold C4
 cases e0:ts[0]? with
 |none=>exact .inl bO
 |some st=>
  have ho:=h.opt 0;have yE:=h.opt 1;generalize xs[0]? =o at ho;generalize bY[0]? =o' at ho;generalize xs[1]? =p at yE;generalize bY[1]? =p' at yE
  cases ho with
  |none=>exact .inl bO
  |some hs=>
   cases yE with
   |none=>exact .inl bO
   |some hx=>
    simp only;refine aG.bnd (lY st) ?_;rintro R1 h1 d _ ⟨rfl,hd⟩
    cases d with
    |slice elem=>
     cases hs with
     |slice hb=>
      refine aG.bnd (zpT (hx.mono h1.le)) ?_;rintro R2 h2 m _ rfl;refine aG.bnd (Aq elem) ?_;rintro R3 h3 size _ rfl;refine aG.bnd (zaf size _ (((hx.mono h1.le).mono h2.le).mono h3.le)) ?_;intro R4 h4 w w' hw;have Pk:=(((hb.mono h1.le).mono h2.le).mono h3.le).mono h4.le
      cases Pk with
      |none=>exact aG.ret (.int _ _)
      |some ha=>
       refine aG.bnd (Yp _ _ 0 ha hw.toList) ?_;rintro R6 h6 _ _ rfl;exact aG.ret (.int _ _)
     |_=>exact .inl bO
    |_=>exact .inl bO
def aG.ite {α β:Type}{A:Pr->α->β->Prop}{c:Prop}[Decidable c]{s t:cU α}{s' t':cU β}(h1:c->aG P S K A s R s')(h2:¬c->aG P S K A t R t'):aG P S K A (if c then s else t) R (if c then s' else t'):=by
 by_cases hc:c
 .rw[if_pos hc,if_pos hc];exact h1 hc
 .rw[if_neg hc,if_neg hc];exact h2 hc
variable {xt:aM}{k:Ez}
def zJH {A:Pr->γ->δ->Prop}{F:Bool->cU γ}{F':Bool->cU δ}(hi:P.underlying xt=some (.int k))(hF:∀R3,xV P K R R3->aG P S K A (F true) R3 (F' true)):
 aG P S K A (match(generalizing:=false) (some xt:Option aM) with|some xt=>do let l<-underlying xt;let zeros<-pure (match l with| .int k=>true|x=>false);F zeros|none=>do let zeros<-pure false;F zeros) R
  (match(generalizing:=false) (some xt:Option aM) with|some xt=>do let l<-underlying xt;let zeros<-pure (match l with| .int k=>true|x=>false);F' zeros|none=>do let zeros<-pure false;F' zeros):=by
 refine aG.bnd (lY xt) ?_;rintro R3 h3 d _ ⟨rfl,zeQ⟩;obtain rfl:d=.int k:=cE (zeQ.symm.trans hi);refine aG.bnd (A:=λ_ a b=>a=true/\b=true) (aG.ret ⟨rfl,rfl⟩) ?_;rintro R4 h4 _ _ ⟨rfl,rfl⟩;exact hF R4 (h3.trans h4)
def zBA (hz:Hz P S)(t:aM)(e1:ts[1]? =some xt)(hi:P.underlying xt=some (.int k))(h:bK S K R xs bY):
 aG P S K (VA S K) (xF ts t xs) R (xF ts t bY):=by
 unfold xF
 cases e0:ts[0]? with
 |none=>exact .inl bO
 |some st=>
  have ho:=h.opt 0;have yE:=h.opt 1;generalize xs[0]? =o at ho;generalize bY[0]? =o' at ho;generalize xs[1]? =p at yE;generalize bY[1]? =p' at yE
  cases ho with
  |none=>exact .inl bO
  |some hs=>
   cases yE with
   |none=>exact .inl bO
   |some hx=>
    rename_i s s' x x';simp only;refine aG.bnd (lY st) ?_;rintro R1 h1 d _ ⟨rfl,hd⟩
    cases d with
    |slice elem=>
     cases hs with
     |slice hb=>
      rename_i b b' n c;refine aG.bnd (Aq elem) ?_;rintro R2 h2 size _ rfl;have rF:=(hb.mono h1.le).mono h2.le;have Af:=(hx.mono h1.le).mono h2.le;rw[e1];refine zJH hi ?_;intro R3 h3;rw[if_pos rfl,if_pos rfl];refine aG.bnd (Ye (Af.mono h3.le)) ?_;rintro R4 h4 l0 _ rfl;refine aG.ite (λ_=>.inl (fC.bnd vK _)) (λ_=>?_);refine aG.bnd (D5 elem) ?_;rintro zMF zHn zM4 _ ⟨rfl,fR⟩;refine aG.ite (λ_=>.inl (fC.then (zjd _) λ_=>fC.bnd vK _)) (λ_=>?_);refine aG.bnd (A:=lT) (aG.ret rfl) ?_;rintro zM0 zFg m _ rfl;have Pk:=(((rF.mono h3.le).mono h4.le).mono zHn.le).mono zFg.le;have new:∀{R5:Pr},aG P S K (λR a b=>bK S K R a b) (if(!true)=true then Uz size m x else if m*size=0 then pure #[] else do pure (pZ (<-zeroValue elem).cells m)) R5 (if(!true)=true then Uz size m x' else if m*size=0 then pure #[] else do pure (pZ (<-zeroValue elem).cells m)):=by
       intro R5;refine aG.ite (λh=>by cases h) (λ_=>?_);refine aG.ite (λ_=>aG.ret bK.empty) (λ_=>?_);exact aG.bnd (Qd hz elem) λR6 h6 z z' pL=>aG.ret (zdo pL.cells _)
      refine aG.ite (λ_=>?_) (λ_=>?_)
      .refine aG.bnd new ?_
       intro R5 h5 w w' hw;have zbr:=Pk.mono h5.le
       cases zbr with
       |none=>exact aG.ret (.slice .none)
       |some ha=>
        refine aG.bnd (Yp _ _ 0 (ha.add _) hw.toList) ?_;rintro R6 h6 _ _ rfl;exact aG.ret (.slice (.some (ha.mono h6.le)))
      .refine aG.bnd (D5 elem) ?_
       rintro zMB zGB zLw _ ⟨rfl,zJ⟩;refine aG.ite (λ_=>.inl (fC.bnd vK _)) (λ_=>?_);refine aG.bnd (D5 elem) ?_;rintro R6 h6 zDI _ ⟨rfl,zyA⟩;have tX:=(Pk.mono zGB.le).mono h6.le;refine aG.ite (λ_=>.inl (fC.bnd (by rw[if_pos rfl];exact vK) _)) (λ_=>?_);refine aG.bnd (zfj _) ?_;rintro R7 h7 nc _ rfl;refine aG.bnd (D5 elem) ?_;rintro R8 h8 zzg _ ⟨rfl,zCj⟩;refine aG.bnd (zi0 _) ?_;rintro R9 h9 _ _ rfl;have x4:=((tX.mono h7.le).mono h8.le).mono h9.le;refine aG.bnd (zaf size n (.slice x4)) ?_;intro zGT Hg o o' ho;refine aG.bnd new ?_;intro zFh S6 w w' hw;refine aG.bnd (Qd hz elem) ?_;intro zC4 zak z z' pL;refine aG.bnd (zbQ elem (((ho.mono (S6.trans zak).le).append (hw.mono zak.le)).append (zdo pL.cells _))) ?_;intro zHs zCb r r' hr;exact aG.ret (.slice (.some hr))
     |_=>exact .inl bO
    |_=>exact .inl bO
def zHl (hz:Hz P S)(ts:Array aM)(t:aM)(h:bK S K R xs bY):aG P S K (VA S K) (Ru ts t xs) R (Ru ts t bY):=by
 unfold Ru
 cases e0:ts[0]? with
 |none=>exact .inl bO
 |some st=>
  have ho:=h.opt 0;generalize xs[0]? =o at ho;generalize bY[0]? =o' at ho;have fin:∀{R2:Pr},aG P S K (VA S K) (pure (.tuple #[])) R2 (pure (.tuple #[])):=aG.ret (VR.tuple' bK.empty)
  cases ho with
  |none=>exact .inl bO
  |some hs=>
   simp only;refine aG.bnd (lY st) ?_;rintro R1 h1 d _ ⟨rfl,hd⟩
   cases hs with
   |map hm=>
    cases hm with
    |none=>cases d<;>exact fin
    |some hm=>
     cases d
     all_goals
      refine aG.bnd (Sn (h1.le _ _ hm)) ?_;intro R2 h2 o o' ho
      cases ho with
      |map he=>exact aG.bnd (zaB (h2.le _ _ (h1.le _ _ hm)) (.map ⟨rfl,λi e e' h=>by simp at h⟩)) (λ_ _ _ _ _=>fin)
      |_=>exact .inl (by first|exact bO|exact bO.bnd _)
   |slice hb=>
    rename_i b b' n c
    cases hb with
    |none=>cases d<;>exact fin
    |some ha=>
     cases n with
     |zero=>cases d<;>exact fin
     |succ n=>
      cases d with
      |slice elem=>
       refine aG.bnd (Qd hz elem) ?_;intro R2 h2 z z' pL;refine aG.bnd (Yp _ _ 0 ((ha.mono h1.le).mono h2.le) (zdo pL.cells _).toList) ?_;rintro R6 h6 _ _ rfl;exact fin
      |_=>exact .inl (bO.bnd _)
   |_=>cases d<;>exact .inl (bO.bnd _)
end
section
variable {P:dL}{S:aO->Prop}{K:Pr}{α β γ δ:Type}{R:Pr}
def zC6 (t:aM){v v':aF}(h:VR S K R v v'):aG P S K (VA S K) (zjg t v) R (zjg t v'):=by
 unfold zjg;refine aG.bnd (lY t) ?_;rintro R1 h1 d _ ⟨rfl,hd⟩
 cases d with
 |interface _=>exact .inl bO
 |_=>exact aG.ret (.iface (h.mono h1.le))
def zoN {z z':Array aF}(h:bK S K R z z')(n:Nat):bK S K R ((Lx n).map (z[·%z.size]!)) ((Lx n).map (z'[·%z'.size]!)):=by
 refine⟨aQ,λi v v' h1 h2=>?_⟩;rw[x7] at h1 h2;rw[<-h.1] at h2
 cases q:(Lx n)[i]? with
 |none=>rw[q] at h1;cases h1
 |some j=>
  rw[q] at h1 h2;cases h1;cases h2
  cases q1:z[j%z.size]? with
  |none=>
   have q2:=h.none q1;show VR S K R (z[j%z.size]!) (z'[j%z.size]!);rw[getElem!_def,getElem!_def,q1,q2];exact .bool false
  |some u=>
   obtain⟨u',q2,hu⟩:=h.get q1;show VR S K R (z[j%z.size]!) (z'[j%z.size]!);rw[getElem!_def,getElem!_def,q1,q2];exact hu
def zwE (hz:Hz P S)(n:Nat)(e:aM){F F':Array aF->cU aF}(hF:∀R1,xV P K R R1->∀z z',bK S K R1 z z'->aG P S K (VA S K) (F z) R1 (F' z')):
 aG P S K (VA S K) (if n=0 then do let z<-pure #[];F z else do let l<-zeroValue e;let z<-pure l.cells;F z) R (if n=0 then do let z<-pure #[];F' z else do let l<-zeroValue e;let z<-pure l.cells;F' z):=by
 split
 .exact aG.bnd (aG.ret (A:=λR a b=>bK S K R a b) bK.empty) hF
 .refine aG.bnd (Qd hz e) ?_
  intro R1 h1 z z' pL;exact aG.bnd (aG.ret (A:=λR a b=>bK S K R a b) pL.cells) (λR2 h2 a b qQ=>hF R2 (h1.trans h2) a b qQ)
def zBM (hz:Hz P S)(t:aM){l l' c c':aF}(hl:VR S K R l l')(hc:VR S K R c c'):aG P S K (VA S K) (zf5 t l c) R (zf5 t l' c'):=by
 unfold zf5;refine aG.bnd (lY t) ?_;rintro R1 h1 d _ ⟨rfl,hd⟩
 cases d with
 |slice elem=>
  refine aG.bnd (Ye (hl.mono h1.le)) ?_;rintro R2 h2 ln _ rfl;refine aG.bnd (Ye ((hc.mono h1.le).mono h2.le)) ?_;rintro R3 h3 cp _ rfl;refine aG.bnd (D5 elem) ?_;rintro R4 h4 inf _ ⟨rfl,hi⟩;simp only;split
  .left
   split
   .exact vK.bnd _
   .split
    .exact vK.bnd _
    .exact fC.then (zjd _) λ_=>vK.bnd _
  .refine aG.bnd (zi0 _) ?_
   rintro R5 h5 _ _ rfl;refine aG.bnd (Aq elem) ?_;rintro R6 h6 sz _ rfl;refine zwE hz _ elem ?_;intro R7 h7 z z' pL;refine aG.bnd (zbQ elem (zoN pL _)) ?_;intro R8 h8 r r' hr;exact aG.ret (.slice (.some hr))
 |_=>exact .inl bO
inductive Ks (S:aO->Prop)(K R:Pr):List (Nat×aF)->List (Nat×aF)->Prop
 |nil:Ks S K R [] []
 |cons {i:Nat} {v v':aF} {l l':List (Nat×aF)}:VR S K R v v'->Ks S K R l l'->Ks S K R ((i,v)::l) ((i,v')::l')
def Ks.mono {R':Pr}(hR:R.le R'){l l':List (Nat×aF)}(h:Ks S K R l l'):Ks S K R' l l':=by
 induction h with
 |nil=>exact .nil
 |cons a _ ih=>exact .cons (a.mono hR) ih
inductive OarR (S:aO->Prop)(K R:Pr):Option (Array aF)->Option (Array aF)->Prop
 |none:OarR S K R none none
 |some {c c':Array aF}:bK S K R c c'->OarR S K R (some c) (some c')
def zxp (off:Nat):∀(l l':List aF) (j:Nat) {c c':Array aF},xN S K R l l'->bK S K R c c'->
 bK S K R ((l.zipIdx j).foldl (λcs (x:aF×Nat)=>cs.setIfInBounds (off+x.2) x.1) c) ((l'.zipIdx j).foldl (λcs (x:aF×Nat)=>cs.setIfInBounds (off+x.2) x.1) c')
 |[],[],j,c,c',_,h=>h
 |[],_::_,_,_,_,h,_=>by have:=h.1;simp at this
 |_::_,[],_,_,_,h,_=>by have:=h.1;simp at this
 |x::l,x'::l',j,c,c',h,hc=>by
  obtain⟨a,b⟩:=h.cons;simp only[List.zipIdx_cons,List.foldl_cons];exact zxp off l l' (j+1) b (hc.set _ a)
def zh0 (place:Nat->Option (Nat×Nat)):∀(l l':List (Nat×aF)) {c c':Array aF},Ks S K R l l'->bK S K R c c'->OarR S K R (Mz place c l) (Mz place c' l')
 |[],_,c,c',.nil,h=>.some h
 |(i,v)::l,(_,v')::l',c,c',.cons a b,h=>by
  unfold Mz
  cases place i with
  |none=>exact .none
  |some os=>
   obtain⟨off,size⟩:=os;have e1:=a.cells.1;have e2:=h.1;simp only;rw[e1,e2];split
   .exact .none
   .refine zh0 place l l' b ?_
    have:=zxp off v.cells.toList v'.cells.toList 0 a.cells.toList h;rw[<-zwP,<-zwP];simpa using this
variable {ps Q5:Array (Nat×aF)}
def zJq (hz:Hz P S)(t:aM)(n:Nat)(h:Ks S K R ps.toList Q5.toList):aG P S K (VA S K) (zj2 t n ps) R (zj2 t n Q5):=by
 unfold zj2;refine aG.bnd (lY t) ?_;rintro R1 h1 d _ ⟨rfl,hd⟩
 cases d with
 |slice elem=>
  refine aG.bnd (Aq elem) ?_;rintro R2 h2 size _ rfl;simp only;split
  .exact .inl (fC.bnd lF _)
  .refine zwE hz _ elem ?_
   intro R3 h3 z z' pL;have hf:=zh0 (λi=>some (i*size,size)) _ _ (((h.mono h1.le).mono h2.le).mono h3.le) (zoN pL (n*size));revert hf;generalize Mz _ _ ps.toList=o;generalize Mz _ _ Q5.toList=o';intro hf
   cases hf with
   |none=>exact .inl bO
   |some hc=>
    refine aG.bnd (zbQ elem hc) ?_;intro R8 h8 r r' hr;exact aG.ret (.slice (.some hr))
 |_=>exact .inl bO
def zo0 {ι κ:Type}{f:ι->cU κ}(hf:∀x (R:Pr),aG P S K lT (f x) R (f x)):∀(l:List ι) {R:Pr},aG P S K lT (l.mapM f) R (l.mapM f)
 |[],R=>by rw[List.mapM_nil];exact aG.ret rfl
 |x::l,R=>by
  rw[List.mapM_cons];refine aG.bnd (hf x R) ?_;rintro R1 h1 a _ rfl;refine aG.bnd (zo0 hf l) ?_;rintro R2 h2 b _ rfl;exact aG.ret rfl
def zBW (hz:Hz P S)(t:aM)(h:Ks S K R ps.toList Q5.toList):aG P S K (VA S K) (zid t ps) R (zid t Q5):=by
 have fin:∀{R3:Pr} (place:Nat->Option (Nat×Nat)) (Ta:String) {z z':Array aF},R.le R3->bK S K R3 z z'->aG P S K (VA S K) (match Mz place z ps.toList with|some cells=>pure (.agg cells)|_=>stuck Ta) R3 (match Mz place z' Q5.toList with|some cells=>pure (.agg cells)|_=>stuck Ta):=by
  intro R3 place Ta z z' hle pL;have hf:=zh0 place _ _ (h.mono hle) pL;revert hf;generalize Mz _ _ ps.toList=o;generalize Mz _ _ Q5.toList=o';intro hf
  cases hf with
  |none=>exact .inl bO
  |some hc=>exact aG.ret (VR.agg' hc)
 unfold zid;refine aG.bnd (Qd hz t) ?_;intro R1 h1 z z' pL;refine aG.bnd (lY t) ?_;rintro R2 h2 d _ ⟨rfl,hd⟩
 cases d with
 |struct fields=>
  refine aG.bnd (A:=lT) ?_ ?_
  .rw[Array.mapM_eq_mapM_toList,map_eq_pure_bind]
   refine aG.bnd (zo0 (λf R=>aG.bnd (Aq _) (λR1 h1 a b e=>by cases e;exact aG.ret rfl)) fields.toList) ?_;rintro R3 h3 l _ rfl;exact aG.ret rfl
  .rintro R3 h3 places _ rfl
   exact fin _ _ (h1.trans (h2.trans h3)).le ((pL.cells.mono h2.le).mono h3.le)
 |array n elem=>
  refine aG.bnd (Aq elem) ?_;rintro R3 h3 size _ rfl;exact fin _ _ (h1.trans (h2.trans h3)).le ((pL.cells.mono h2.le).mono h3.le)
 |_=>exact .inl bO
end
section
variable {P:dL}{S:aO->Prop}{K:Pr}{R:Pr}
def zr1 (op:N7)(k:Ez)(a b:Int):aG P S K (VA S K) (ztH op k a b) R (ztH op k a b):=by
 cases op<;>first|exact aG.ret (.int _ _)|exact .inl bO
def zAZ (op:N7)(k:Ez)(a b:Int):aG P S K (VA S K) (zhD op k a b) R (zhD op k a b):=by
 unfold zhD;split
 .exact .inl vK
 .cases op<;>first|exact aG.ret (.int _ _)|exact .inl bO
def zwV (op:N7)(k:Ez)(a b:Int):aG P S K (VA S K) (zpI op k a b) R (zpI op k a b):=by
 cases op<;>first|exact aG.ret (.int _ _)|exact .inl bO
def zs6 (op:N7)(k:Ez)(a:Int)(k':Ez)(b:Int):aG P S K (VA S K) (zmd op k a k' b) R (zmd op k a k' b):=by
 unfold zmd;split
 .exact .inl vK
 .cases op<;>first|exact aG.ret (.int _ _)|exact .inl bO
def zj6 (op:N7)(a b:Int):aG P S K (VA S K) (Op.intCmp op a b) R (Op.intCmp op a b):=by
 cases op<;>first|exact aG.ret (.bool _)|exact .inl bO
def znV (op:N7)(a b:ByteArray):aG P S K (VA S K) (zk2 op a b) R (zk2 op a b):=by
 unfold zk2;cases op<;>first|exact aG.ret (.bool _)|exact .inl bO|skip
 simp only;split
 .exact .inl lF
 .exact aG.ret (.string _)
variable {x x':aF}
def zJc (op:UnOp)(h:VR S K R x x'):aG P S K (VA S K) (Op.unary op x) R (Op.unary op x'):=by
 cases h with
 |int k n=>cases op<;>first|exact zr1 .sub k 0 n|exact zwV .xor k _ n|exact .inl bO
 |bool b=>cases op<;>first|exact aG.ret (.bool _)|exact .inl bO
 |pointer h=>cases h<;>cases op<;>first|exact .inl lF|exact .inl bO
 |_=>cases op<;>exact .inl bO
def dL.cellOfByte_g (P:dL):∀(d:Nat) (t:aM) (o:Nat),cellOfByte P.g d t o=cellOfByte P.c d t o:=by
 intro d
 induction d with
 |zero=>intro t o;rfl
 |succ d ih=>
  intro t o;unfold cellOfByte;rw[P.underlying_g];simp only[ih,P.cells_g,P.bytes_g];rfl
def dL.cellAtBytes_g (P:dL)(d:Nat)(e:aM)(c o:Nat)(b:Int):cellAtBytes P.g d e c o b=cellAtBytes P.c d e c o b:=by
 unfold cellAtBytes;simp only[P.cells_g,P.bytes_g,P.byteOfCell_g,P.cellOfByte_g];rfl
variable {y y':aF}
def zyz (ts:Array aM)(t:aM)(hx:VR S K R x x')(hy:VR S K R y y'):aG P S K (λR v v'=>∃a a',v=.pointer a/\v'=.pointer a'/\wU R a a') (Nw ts t #[x,y]) R (Nw ts t #[x',y']):=by
 unfold Nw
 cases hx with
 |pointer hp=>
  refine aG.bnd (Ye hy) ?_;rintro R1 h1 n _ rfl;by_cases hn:n=0
  .simp only[if_pos hn]
   cases hp with
   |none=>exact .inl lF
   |some ha=>
    cases ha with
    |mk hr=>
     refine aG.bnd (zu3 (h1.le _ _ hr)) ?_;rintro R2 h2 _ _ ⟨rfl,rfl⟩;exact aG.ret ⟨_,_,rfl,rfl,.some (.mk (h2.le _ _ (h1.le _ _ hr)))⟩
  .simp only[if_neg hn]
   by_cases h0:n<0
   .simp only[if_pos h0]
    exact .inl (fC.bnd lF _)
   .simp only[if_neg h0]
    cases hp with
    |none=>exact .inl lF
    |some ha=>
     cases ha with
     |mk hr=>
      refine aG.bnd (za4 (h1.le _ _ hr)) ?_;rintro R2 h2 x _ rfl
      cases x with
      |none=>exact .inl lF
      |some x=>
       obtain⟨e,n⟩:=x;refine aG.bnd Rp ?_;rintro R3 h3 p q ⟨rfl,rfl⟩;simp only[P.cells_g,P.depth_g,P.cellAtBytes_g];split
       .exact aG.ret ⟨_,_,rfl,rfl,.some (.mk (h3.le _ _ (h2.le _ _ (h1.le _ _ hr))))⟩
       .exact .inl lF
 |_=>exact .inl bO
def zbU (ts:Array aM)(t:aM)(hx:VR S K R x x')(hy:VR S K R y y'):aG P S K (VA S K) (Nw ts t #[x,y]) R (Nw ts t #[x',y']):=
 (zyz ts t hx hy).mono λR' _ a b h=>by
  obtain⟨p,p',rfl,rfl,h⟩:=h;exact .pointer h
variable {a':bL}
def zHj {a:bL}(h:fU R a a')(l:Bool):aG P S K (VA S K) (asNumber a l) R (asNumber a' l):=by
 unfold asNumber;refine aG.bnd (zet (.number h)) ?_;rintro R1 h1 n n' hn;exact aG.ret (.pointer (.some (.mk hn)))
def zJf {a:bL}(h:fU R a a'):aG P S K (λR x y=>fU R x.1 y.1/\x.2=y.2) (behindNumber a) R (behindNumber a'):=by
 have h0:=h
 cases h with
 |mk h=>
  unfold behindNumber;refine aG.bnd (zjz h) ?_;rintro R1 h1 x y (⟨rfl,rfl⟩|⟨p,p',l,rfl,rfl,hp⟩)
  .exact aG.ret ⟨h0.mono h1.le,rfl⟩
  .exact aG.ret ⟨hp,rfl⟩
def znl (t:aM)(hx:VR S K R x x')(hy:VR S K R y y'):aG P S K (VA S K) (movedNumber t x y) R (movedNumber t x' y'):=by
 unfold movedNumber;refine aG.bnd (lY t) ?_;rintro R1 h1 d _ ⟨rfl,_⟩
 have k:aG P S K (VA S K) (do
  let .pointer (some n):=x|Nw #[] t #[x,y]
  let(a,lost)<-behindNumber n
  match<-Nw #[] t #[.pointer (some a),y] with
  | .pointer (some b)=>asNumber b lost
  |v=>pure v) R1 (do
  let .pointer (some n):=x'|Nw #[] t #[x',y']
  let(a,lost)<-behindNumber n
  match<-Nw #[] t #[.pointer (some a),y'] with
  | .pointer (some b)=>asNumber b lost
  |v=>pure v):=by
  have Et:=hx.mono h1.le;have Oz:=hy.mono h1.le
  cases hx with
  |pointer hp=>
   cases hp with
   |none=>exact zbU _ _ Et Oz
   |some ha=>
    refine aG.bnd (zJf (ha.mono h1.le)) ?_;rintro R2 h2 ⟨a,l⟩ ⟨a',l'⟩ ⟨h3,h4⟩;simp only at h3 h4;subst h4;refine aG.bnd (zyz _ _ (.pointer (.some h3)) (Oz.mono h2.le)) ?_;rintro R3 h5 v v' ⟨p,p',rfl,rfl,hb⟩
    cases hb with
    |none=>exact aG.ret (.pointer .none)
    |some hb=>exact zHj hb _
  |junk _=>exact .inl bO
  |_=>exact zbU _ _ Et Oz
 cases d<;>first|exact k|exact .inl lF|exact .inl (fC.bnd lF _)
def zGD (t:aM)(hx:VR S K R x x')(hy:VR S K R y y'):aG P S K (VA S K) (movedPointer t x y) R (movedPointer t x' y'):=by
 unfold movedPointer;have sV:=hx
 cases hx with
 |pointer hp=>
  cases hp with
  |none=>exact zbU _ _ sV hy
  |some ha=>
   have Px:=ha
   cases ha with
   |mk hr=>
    refine aG.bnd (zjz hr) ?_;rintro R1 h1 x y (⟨rfl,rfl⟩|⟨p,p',l,rfl,rfl,hp⟩)
    .exact zbU #[] t (sV.mono h1.le) (hy.mono h1.le)
    .exact .inl lF
 |_=>exact zbU _ _ sV hy
end
section
variable {P:dL}{S:aO->Prop}{K:Pr}{R:Pr}
variable {a a' b b':bL}
def zqZ (hR:tH P K R)(ha:fU R a a')(hb:fU R b b'):aG P S K lT (zhu a b) R (zhu a' b'):=by
 unfold zhu;refine aG.bnd zjG ?_;rintro R1 _ p q ⟨rfl,rfl,rfl⟩;have e1:=fU.block_eq hR ha hb;have e2:=fU.low hR ha;have e3:decide (a.block>=P.globals.size)=decide (a'.block>=P.globals.size):=by
  have:=decide_eq_decide.1 e2;exact decide_eq_decide.2 aC
 have hc:(a.block !=b.block||decide (a.block>=P.g.globals.size))=(a'.block !=b'.block||decide (a'.block>=P.c.globals.size)):=by
  rw[P.globals_g];show(!(a.block==b.block)||_)=(!(a'.block==b'.block)||_);rw[e1];congr 1
 by_cases h:(a.block !=b.block||decide (a.block>=P.g.globals.size))=true
 .simp only[if_pos h]
  exact .inl (fC.bnd lF _)
 .have h':¬(a'.block !=b'.block||decide (a'.block>=P.c.globals.size))=true:=by rw[<-hc];exact h
  simp only[if_neg h,if_neg h'];refine aG.bnd (Uc ha) ?_;rintro R4 h4 m _ rfl;refine aG.bnd (Uc (hb.mono h4.le)) ?_;rintro R5 h5 m' _ rfl;exact aG.ret rfl
def zIo (hR:tH P K R)(k:Ez)(ha:fU R a a')(hb:fU R b b'):aG P S K (VA S K) (zmD k a b) R (zmD k a' b'):=by
 unfold zmD;refine aG.bnd (zqZ hR ha hb) ?_;rintro R1 _ ⟨x,y⟩ _ rfl;exact aG.ret (.int _ _)
def zBX (hR:tH P K R)(op:N7)(ha:fU R a a')(hb:fU R b b'):aG P S K (VA S K) (znJ op a b) R (znJ op a' b'):=by
 unfold znJ;refine aG.bnd (zqZ hR ha hb) ?_;rintro R1 _ ⟨x,y⟩ _ rfl;cases op<;>first|exact aG.ret (.bool _)|exact .inl lF
def zsC (k:Ez)(ha:fU R a a')(n:Int):aG P S K (VA S K) (zkL k a n) R (zkL k a' n):=by
 unfold zkL;have Px:=ha
 cases ha with
 |mk hr=>
  refine aG.bnd (za4 hr) ?_;rintro R1 h1 x _ rfl
  cases x with
  |none=>exact .inl lF
  |some x=>
   obtain⟨e,c⟩:=x;refine aG.bnd (D5 e) ?_;rintro R2 h2 i _ ⟨rfl,_⟩;simp only;split
   .exact .inl (fC.bnd lF _)
   .refine aG.bnd (Uc (Px.mono (h1.trans h2).le)) ?_
    rintro R3 h3 m _ rfl;exact aG.ret (.int _ _)
def zDl (op:N7)(t:aM){x y:aF}(ho:op≠ .eql/\op≠ .neq)(hx:∀k n,x≠ .int k n)(hs:∀s,x≠ .string s)(hp:∀a,x≠ .pointer a)(hf:∀k n,x≠ .float k n)(hc:∀k n m,x≠ .complex k n m):fC P (binOp op t x y):=by
 unfold binOp;split<;>first|exact bO|exact lF|(exfalso;first|exact hx _ _ rfl|exact hs _ rfl|exact hp _ rfl|exact hf _ _ rfl|exact hc _ _ _ rfl|exact ho.1 rfl|exact ho.2 rfl)
def zIO (op:N7)(t:aM)(ho:op≠ .eql/\op≠ .neq)(hR:tH P K R){x x' y y':aF}(hx:VR S K R x x')(hy:VR S K R y y'):
 aG P S K (VA S K) (binOp op t x y) R (binOp op t x' y'):=by
 have sV:=hx;have Q1:=hy
 cases hx with
 |int k a=>
  cases hy with
  |int k' b=>
   by_cases hk:k=k'
   .subst hk
    cases op<;>simp only[binOp,ne_eq,not_true_eq_false,if_false]<;>first|exact zr1 _ _ _ _|exact zAZ _ _ _ _|exact zwV _ _ _ _|exact zs6 _ _ _ _ _|exact zj6 _ _ _
   .cases op<;>simp only[binOp,ne_eq,hk,not_false_eq_true,if_true]<;>first|exact zs6 _ _ _ _ _|exact .inl bO
  |pointer hp=>
   cases op<;>first|exact absurd rfl ho.1|exact absurd rfl ho.2|exact znl t Q1 sV|skip
   all_goals(cases hp<;>first|exact .inl lF|skip)
   rename_i hb;refine aG.bnd (zuA hb) ?_;intro R1 h1 u v zlV;exact zsC _ zlV _
  |_=>cases op<;>first|exact absurd rfl ho.1|exact absurd rfl ho.2|exact .inl bO
 |string a=>
  cases hy with
  |string b=>cases op<;>simp only[binOp]<;>exact znV _ _ _
  |pointer hp=>cases op<;>first|exact absurd rfl ho.1|exact absurd rfl ho.2|exact .inl lF
  |_=>cases op<;>first|exact absurd rfl ho.1|exact absurd rfl ho.2|exact .inl bO
 |pointer hp=>
  cases hy with
  |int k n=>
   have e:∀m,VR S K R (.int k m) (.int k m):=λm=>.int k m;cases op<;>first|exact absurd rfl ho.1|exact absurd rfl ho.2|exact znl t sV (e _)|skip
   all_goals first|(cases hp<;>first|exact .inl lF|(rename_i hb;refine aG.bnd (zuA hb) ?_;intro R1 h1 u v zlV;exact zsC _ zlV _))|skip
   all_goals
    simp only[binOp];refine aG.bnd (lY t) ?_;rintro R1 h1 d _ ⟨rfl,_⟩;cases d<;>first|exact zGD t (sV.mono h1.le) (Q1.mono h1.le)|exact znl t (sV.mono h1.le) (Q1.mono h1.le)
  |pointer hq=>
   cases hp with
   |none=>cases hq<;>cases op<;>first|exact absurd rfl ho.1|exact absurd rfl ho.2|exact .inl lF
   |some ha=>
    cases hq with
    |none=>cases op<;>first|exact absurd rfl ho.1|exact absurd rfl ho.2|exact .inl lF
    |some hb=>
     have two:∀{F F':bL->bL->cU aF},(∀u u' v v',fU R u u'->fU R v v'->aG P S K (VA S K) (F u v) R (F' u' v'))->∀{a1 zlN a2 zj4},fU R a1 zlN->fU R a2 zj4->
      aG P S K (VA S K) (do F (<-behindNumber a1).1 (<-behindNumber a2).1) R (do F' (<-behindNumber zlN).1 (<-behindNumber zj4).1):=by
      intro F F' hF a1 zlN a2 zj4 h1 h2;refine aG.bnd (zhl h1) ?_;rintro R1 _ u u' ⟨rfl,hu⟩;refine aG.bnd (zhl h2) ?_;rintro R2 _ v v' ⟨rfl,hv⟩;exact hF _ _ _ _ hu hv
     cases op<;>first|exact absurd rfl ho.1|exact absurd rfl ho.2|exact .inl lF|exact two (λu u' v v' h1 h2=>zIo hR _ h1 h2) ha hb|exact two (λu u' v v' h1 h2=>zBX hR _ h1 h2) ha hb
  |_=>cases op<;>first|exact absurd rfl ho.1|exact absurd rfl ho.2|exact .inl lF|(cases hp<;>exact .inl lF)
 |_=>exact .inl (zDl op t ho aQ aQ aQ aQ aQ)
end
def Ends {α:Type}(r:Result α):Prop:=(∃x w',r=.ok x w')\/∃h w',r=.halt h w'/\Yg h
def Ends.halt {h:Halt}(ht:Yg h):Ends (.halt h w:Result α):=.inr ⟨h,w,rfl,ht⟩
def aG.tame {A:Pr->α->β->Prop}{G:Gp}(hG:G=P.gp)(s:cU α):
 ∀{R:Pr} {w W:aE} {s':cU β},aG P S K A s R s'->cT S K R G St w W->Tp w W->Ends (s.run P.g w):=by
 induction s with
 |pure a=>
  rintro R w W s' (hn|⟨b,rfl,h⟩) hw ht
  .exact .inr (hn _ hw.np)
  exact .inl ⟨a,w,rfl⟩
 |load m a k ih=>
  rintro R w W s' (hn|⟨rfl,a',k',rfl,ha,hk⟩) hw ht
  .exact .inr (hn _ hw.np)
  obtain⟨qQ⟩:=ha;rename_i b b' o sp;obtain⟨ob,yA,h1,h2,h3⟩:=hw.cont b b' qQ
  cases h3 with
  |cells hc hz=>
   rename_i c c' T fz Ii
   cases sp with
   |some sp=>simp only[bD,lI,h1,yX,rE];exact .halt trivial
   |none=>
    cases hv:c[o]? with
    |none=>simp only[bD,lI,h1,yX,rE,hv];exact .halt trivial
    |some v=>
     obtain⟨v',J6,wI⟩:=hc.get hv;have e1:w.cell? ⟨b,o,none⟩=some v:=by simp[lI,h1,hv]
     rw[bD,e1];exact ih v (hk v v' wI) hw ht
  |_=>simp only[bD,lI,h1,yX,rE];exact .halt trivial
 |store m a v k ih=>
  rintro R w W s' (hn|⟨rfl,a',v',k',rfl,ha,hv,hk⟩) hw ht
  .exact .inr (hn _ hw.np)
  obtain⟨qQ⟩:=ha;rename_i b b' o sp;by_cases M0:∃cs,v=.agg cs
  .obtain⟨cs,rfl⟩:=M0;rw[bD];exact .halt trivial
  by_cases Be:∃cs,v=.tuple cs
  .obtain⟨cs,rfl⟩:=Be;rw[bD];exact .halt trivial
  rw[bD]
  rotate_left
  .exact λcs e=>M0 ⟨cs,e⟩
  .exact λcs e=>Be ⟨cs,e⟩
  obtain⟨ob,yA,h1,h2,h3⟩:=hw.cont b b' qQ
  cases h3 with
  |cells hc hz=>
   rename_i c c' T fz Ii
   cases sp with
   |some sp=>simp only[lI,h1,De,rE];exact .halt trivial
   |none=>
    cases fJ:c[o]? with
    |none=>simp only[lI,h1,De,rE,fJ];exact .halt trivial
    |some v0=>
     have e1:w.cell? ⟨b,o,none⟩=some v0:=by simp[lI,h1,fJ]
     rw[e1];simp only
     cases mU:w.frozen? ⟨b,o,none⟩ with
     |true=>exact .halt trivial
     |false=>
      simp only[jF,if_false];have Yr:¬Jv fz o:=by
       intro⟨z1,z2⟩;simp[Sa,h1,z1,z2] at mU
      have y8:¬St b:=by
       intro hs;obtain⟨_,c2,T2,hi,g1,g2⟩:=hw.st b hs;rw[h1] at g1;injection g1 with g1;injection g1 with g1 _ g3;subst g1 g3;exact Yr ⟨jY _,lC (dO.1 fJ).1 g2⟩
      rw[U9 h1];have st:=nA.upd hw qQ y8 (oI.cells (T:=T) (hc.set o hv) hz);exact ih hk st.rel (ht.step st)
  |_=>simp only[lI,h1,De,rE];exact .halt trivial
 |new o k ih=>
  rintro R w W s' (hn|⟨o',k',rfl,ho,hk⟩) hw ht
  .exact .inr (hn _ hw.np)
  rw[bD];have st:=nA.push hw ho;exact ih _ (hk _ _ ⟨λb hb=>absurd (hw.lt _ _ hb).1 (Ci _),λa ha=>absurd (hw.lt _ _ ha).2 (Ci _),by subst hG;exact hw.gle⟩) st.rel (ht.step st)
 |shape r k ih=>
  rintro R w W s' (hn|⟨r',k',rfl,tG,hk⟩) hw ht
  .exact .inr (hn _ hw.np)
  rw[bD];exact ih _ (hk _) hw ht
 |freeze a n k ih=>
  rintro R w W s' (hn|h) hw ht
  .exact .inr (hn _ hw.np)
  .exact h.elim
 |frozen a k ih=>
  rintro R w W s' (hn|⟨r',k',rfl,hk⟩) hw ht
  .exact .inr (hn _ hw.np)
  rw[bD];exact ih _ (hk _ true) hw ht
 |getObj r k ih=>
  rintro R w W s' (hn|⟨r',k',rfl,tG,hk⟩) hw ht
  .exact .inr (hn _ hw.np)
  rw[bD];rcases hw.orR tG with x|x
  .obtain⟨ob,yA,h1,h2,h3⟩:=hw.cont r r' x
   rw[h1];have go:=ih ob (hk _ _ h3) hw ht;cases h3<;>first|exact go|exact .halt trivial
  .rw[x];exact .halt trivial
 |setObj r o k ih=>
  rintro R w W s' (hn|⟨r',o',k',rfl,tG,ho,hk⟩) hw ht
  .exact .inr (hn _ hw.np)
  rw[bD];rcases hw.orR tG with x|x
  .obtain⟨ob,yA,h1,h2,h3⟩:=hw.cont r r' x
   rw[h1];have go:(∀c T fz,ob≠ .cells c T fz)->Ends (k.run P.g {w with heap:=w.heap.setIfInBounds r o}):=λn1=>by
    have y8:¬St r:=by
     intro hs;obtain⟨_,c2,T2,hi,g1,g2⟩:=hw.st r hs;rw[h1] at g1;injection g1 with g1;exact n1 _ _ _ g1
    have st:=nA.upd hw x y8 ho;exact ih hk st.rel (ht.step st)
   cases h3<;>first|exact go aQ|exact .halt trivial
  .rw[x];exact .halt trivial
 |choose q k ih=>
  rintro R w W s' (hn|⟨k',rfl,hk⟩) hw ht
  .exact .inr (hn _ hw.np)
  rw[bD]
  cases hq:q.forced with
  |true=>
   simp only[if_true];exact ih 0 (hk 0) hw ht
  |false=>
   simp only[jF,if_false];have st:=nA.draw hw;exact ih _ (hk _) st.rel (ht.step st)
 |sys c k ih=>
  rintro R w W s' (hn|h) hw ht
  .exact .inr (hn _ hw.np)
  .exact h.elim
 |program k ih=>
  rintro R w W s' (hn|⟨k',rfl,hk⟩) hw ht
  .exact .inr (hn _ hw.np)
  rw[bD];exact ih _ hk hw ht
 |mark m k ih=>
  rintro R w W s' (hn|⟨rfl,k',rfl,hk⟩) hw ht
  .exact .inr (hn _ hw.np)
  rw[bD];exact ih hk hw ht
 |halt h=>
  rintro R w W s' (hn|hx) hw ht
  .exact .inr (hn _ hw.np)
  .exact hx.elim
end Go.Tt
