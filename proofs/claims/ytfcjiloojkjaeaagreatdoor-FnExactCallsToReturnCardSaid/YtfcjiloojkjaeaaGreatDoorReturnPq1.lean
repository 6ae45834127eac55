/-
  Part 1 of what stands behind the last text.
-/
import Derived.Test.YtfcjiloojkjaeaaGreatDoorRows
import Derived.Lib.SmallJoins
import Derived.WalkSpells
import Derived.WalkLawsBesides
import Derived.BigQuiet
import Derived.Deep.OwnRows
import Derived.Deep.AppendLies
import Derived.Deep.AppendSrc
import Derived.Deep.RegionLaw
import Derived.Lib.ItoaLen
import Derived.Deep.Matrix
import Derived.Deep.RegionHeld3
import Derived.Deep.CutRange
import Derived.Conc.Own
open Array renaming foldl_toList→zpg,getD_eq_getD_getElem?→tJ,getElem?_eq_getElem→mD,getElem?_eq_none→Hj,getElem?_eq_none_iff→zyl,getElem?_eq_some_iff→dQ,getElem?_map→xL,getElem?_modify→ziO,getElem?_push→Zl,getElem?_push_lt→Ue,getElem?_setIfInBounds_ne→jP,getElem?_setIfInBounds_self_of_lt→Lx,range→Ma
open Bool renaming eq_iff_iff→Ns,false_eq_true→jE
open Go renaming Addr→bL,BinOp→N4,BoundsCode→zmj,Calls→fH,FuncId→aO,IntKind→D4,MapEntry→oX,MemPlace→zuu,Obj→tT,Oper→aZ,Operand→cN,Program→bR,Sem→cU,TypeDesc→X7,TypeId→aM,TypeInfo→wY,Value→aF,World→aE,heap_alloc_new→lP,info_parts→y3,run_append_own_at→zwj,yielded→dR
open Go.Addr renaming add→ze1
open Go.Addr.mk renaming injEq→ztJ
open Go.Builtin renaming append_→wL,cap_→znA,clear_→Uj,copy_→C5,delete_→J7,firstCells→Sc,holdsCells→zhU,lenOf→zvG,len_→zmy,mayShare→zot,unsafeAdd_→Od,zeroCells→p8
open Go.ByteArray renaming toList_eq→zrA
open Go.DataW renaming Trod→zyg,trod_int→Vr
open Go.Ending renaming returned→znR
open Go.Instr renaming alloc→zjv,box→zkT,build→znp,buildSlice→zks,checkKey→Gl,extract→zk7,fieldAt→zht,fill→Mr,findAsking→Kg,findKey→K3,findNow→Hf,index→zmg,indexAt→zm2,keyThatStays→Pf,loadAt→zjx,lookup→zP,makeChan→zmY,makeInterface→zlb,makeMap→ziX,makeSlice→zf2,mapUpdate→G6,sameBits→za5,sameNow→vY,slice→Yr,sliceAt→Y7,sliceBound→Ka,sliceBounds→Xh,storeAt→zju,sureAddr→zoJ
open Go.Lib renaming decDigits→Ls,decDigits_one→ztN,itoa→Kq
open Go.Obj renaming cells→zr6
open Go.Op renaming addrCmp→zlG,addrMod→zj5,addrSub→ziZ,equal→zA,equalIn→Dh,intArith→zrK,intBits→zwc,intDiv→zkH,shift→zj8,stringOp→zil,twoPlaces→zhM
open Go.Oper renaming wp→B8
open Go.Proofs.Tryz renaming func10→zwk,func16→zx0,func17→zvr,func22→zoU,func23→zou,func39→zxQ,func44→ztm,ntmps10→zuF,ntmps16→zp6,ntmps17→zrm,ntmps22→ztU,ntmps23→zu5,ntmps39→zvN,ntmps44→zx6,prog→aK,underlying57→K9
open Go.Region renaming wanted→dD
open Go.Result renaming andThen_ok→Fa
open Go.RowKit renaming Below→bU
open Go.RowKit.Below renaming heap_alloc→rA,heap_setCell→eJ,refl→eG
open Go.Sem renaming events→vV,run→bD,runT→y7,run_bind→Et,run_bind'→r9,run_pure→Jd
open Go.Value renaming cells→Ux,okWide→zvO,oneCell'→zty,ownBlock→J1,tuple→Ye
open Go.World renaming block_lt_of_cell?→zpz,cell?→lF,cell?_of_block→Cw,farLoad→yD,farStore→Dc,frozen?→S8,news_of_block→E7,noCell→rJ,setCell→znm,shape?→zci,size_setCell→sU
open List renaming cons_append→Sw,dropWhile_cons→zn2,ext_getElem?→Ra,filter_append→Qk,filter_cons→zq7,find?_cons→znU,findIdx?_cons→zsM,flatMap_cons→zda,getElem?_eq_getElem→lV,getElem?_eq_none→Ca,getElem?_eq_some_iff→jX,getElem?_modify→zS,length→Yn,length_append→gM,length_cons→pX,length_drop→xS,length_filter_le→zaE,length_modify→Gj,length_nil→r8,length_take→rU,map_cons→fL,map_nil→tM,map_toArray→uW,mem_cons→jH,mem_iff_getElem→L9,mem_map→Jr,mem_of_getElem?→dX,nil_append→zgH,range→gN,takeWhile_cons→zcg,take_add_one→N3,take_of_length_le→zZ
open Nat renaming add_assoc→Zz,le_refl→aV,le_trans→eM,lt_irrefl→Bt,lt_of_lt_of_le→lE,lt_or_ge→mY,lt_succ_self→xD,mul_le_mul_right→Aa,succ_mul→zhK,zero_add→qX,zero_le→jO,zero_mul→zbf
open Option.some renaming inj→cE,injEq→fY
open Pure renaming pure→kW
open UInt8 renaming ofNat→Rg
set_option linter.all false
structure pR (P:Prop):Prop where
 o:P
def aD {P:Prop}(h:P):pR P:=⟨h⟩
set_option maxHeartbeats 16000000
set_option maxRecDepth 100000
namespace Go
def aC{P:Prop}(h:P:=by omega):P:=h
def aH{P:Prop}(h:P:=by decide):P:=h
def aQ{P:Prop}(h:P:=by kernel_rfl):P:=h
def aP{P:Prop}(h:P:=by simp):P:=h
def Sb{P:Prop}(h:P:=by intro u hu;simp[bE.cells] at hu;rcases hu with rfl|rfl<;>rfl):P:=h
def qR{P:Prop}(h:P:=by simp;omega):P:=h
def La{P:Prop}(h:P:=by intro u hu;simp at hu;subst hu;rfl):P:=h
def zqD{P:Prop}(h:P:=by(repeat' (first|with_reducible assumption|with_reducible exact zaX (by assumption)|with_reducible exact eG _ _|with_reducible apply dO|with_reducible apply zaw))):P:=h
def nC{P:Prop}(h:P:=by go_num):P:=h
def Gv{P:Prop}(h:P:=by simp[J1];omega):P:=h
def zqg{P:Prop}(h:P:=by intro k hk aT;have cO:k=0\/k=1\/k=2\/k=3\/k=4\/k=6:=(by omega);rcases cO with rfl|rfl|rfl|rfl|rfl|rfl<;>rfl):P:=h
def ztg{P:Prop}(h:P:=by intro k hk aT;have cO:k=0\/k=1\/k=2\/k=3\/k=4\/k=5:=(by omega);rcases cO with rfl|rfl|rfl|rfl|rfl|rfl<;>rfl):P:=h
def Ku{P:Prop}(h:P:=by simp only;omega):P:=h
def zck{P:Prop}(h:P:=by rw[hl.o];exact aV _):P:=h
def zsV{P:Prop}(h:P:=by symm;rw[beq_eq_false_iff_ne];intro e;exact HN.o (by rw[<-hl.o,<-yC.o,e])):P:=h
def zer{P:Prop}(h:P:=by first|(simp;done)|(simp;omega)):P:=h
def Ua{P:Prop}(h:P:=by simpa using h1):P:=h
def Sg{P:Prop}(h:P:=by simpa using h2):P:=h
def Wa{P:Prop}(h:P:=by assumption):P:=h
def zvS{P:Prop}(h:P:=by unfold vP;rw[zhQ HC.o (by rw[hl.o];exact aV _)];rfl):P:=h
def Nd{P:Prop}(h:P:=by rw[bD]):P:=h
def Y4{P:Prop}(h:P:=by rw[eV];simp):P:=h
def zdF{P:Prop}(h:P:=by have:=t.size;omega):P:=h
def zww{P:Prop}(h:P:=by first|(simp[J1];done)|(simp[J1];omega)):P:=h
def zgC{P:Prop}(h:P:=by simpa using zu0.o):P:=h
def zjM{P:Prop}(h:P:=by first|exact lG|exact bN):P:=h
def zjK{P:Prop}(h:P:=by first|exact bN|exact lG):P:=h
def zhn{P:Prop}(h:P:=by simpa using hb):P:=h
def zsZ{P:Prop}(h:P:=by simpa using hF 0 _ rfl hf.1 hf.2):P:=h
def zeM{P:Prop}(h:P:=by simpa using h):P:=h
def zhx{P:Prop}(h:P:=by show y≠gb;omega):P:=h
end Go
namespace Go
def aU{α:Sort _}(a:α):∃y,y=a:=⟨_,rfl⟩
def znS{p:Nat->Prop}(k:∀i,p i):p 0/\p 1/\p 2:=⟨k 0,k 1,k 2⟩
def eR{p:Nat->Prop}(k:∀i,p i):p 0/\p 1/\p 2/\p 3/\p 4/\p 5/\p 6/\p 7:=⟨k 0,k 1,k 2,k 3,k 4,k 5,k 6,k 7⟩
end Go
namespace Go.Proofs.YtfcjiloojkjaeaaGreatDoor
open Go.Joins Go.ChangeShapes Go.WideShapes Go.RowKit Go.Deep
def own:ownKnob aK.godebug=none:=aQ
def zjg:laidOutB aK=true:=aQ
end Go.Proofs.YtfcjiloojkjaeaaGreatDoor
namespace Go.Proofs.YtfcjiloojkjaeaaGreatDoor
open Go.RowKit
def inB (n lo hi:Int):Bool:=decide (lo<=n/\n<=hi)
def En {a b:Bool}(h:a=b):znR (.bool a)=.returned (.bool b):=by rw[h]
def Ba {k:D4}{a b:Int}(h:a=b):znR (.int k a)=.returned (.int k b):=by rw[h]
variable {W:aE}{N:Nat}{o:tT}
def gA (hN:W.heap[N]? =some o):N<W.heap.size:=by
 rcases mY N W.heap.size with h|h
 .exact h
 .rw[Hj h] at hN;cases hN
variable {w1:aE}
def eI (hb:bU W.heap.size W w1)(hN:W.heap[N]? =some o):w1.heap[N]? =some o/\N<w1.heap.size:=
 ⟨(hb.block N (gA hN)).trans hN,lE (gA hN) hb.size⟩
def dH (hN:W.heap[N]? =some o)(o':tT):(W.alloc o').heap[N]? =some o:=(rA W o' N (gA hN)).trans hN
variable {w:aE}
def X5 (h:bU w.heap.size w W)(hb:bU W.heap.size W w1):bU w.heap.size w w1:=h.trans (hb.mono h.size)
def dO (h:bU w.heap.size w W)(o:tT):bU w.heap.size w (W.alloc o):=h.alloc h.size o
variable {cs:Array aF}{T:aM}{fz:Nat×Nat}
def aJ (h:w.heap[N]? =some (.cells cs T fz))(o:Nat):w.cell? ⟨N,o,none⟩=cs[o]? :=cell_of_row w N o cs T fz h
def zpw (n lo hi:Int)(w:aE):
 fH aK 49 #[.int .i64 n,.int .i64 lo,.int .i64 hi] w λe w'=>e=.returned (.bool (inB n lo hi))/\w'=w:=by
 go_enter Tryz.func49,Tryz.ntmps49
 go_wp2
 all_goals go_ret
 all_goals exact⟨En (by simp[inB];omega),rfl⟩
structure b7 (w:aE)(lo hi s:Nat)(A:Option bL)(n c:Nat)(xs:List aF):Prop where
 len:xs.length=n*s
 le:n<=c
 cap:c<=maxLen
 at_:0<n->∃b off,A=some ⟨b,off,none⟩/\lo<=b/\b<hi/\b<w.heap.size/\∀j v,xs[j]? =some v->w.cell? ⟨b,off+j,none⟩=some v
variable {w':aE}{lo hi s n c:Nat}{A:Option bL}{xs:List aF}
def b7.keep (h:b7 w lo hi s A n c xs)(hs:w.heap.size<=w'.heap.size)(k:∀b,lo<=b->b<hi->b<w.heap.size->w'.heap[b]? =w.heap[b]?):b7 w' lo hi s A n c xs:=
 ⟨h.len,h.le,h.cap,λhn=>by
  obtain⟨b,off,e,h1,h2,h3,h4⟩:=h.at_ hn;exact⟨b,off,e,h1,h2,lE h3 hs,λj v hv=>(Cw (k b h1 h2 h3)).trans (h4 j v hv)⟩⟩
def b7.below (h:b7 w lo hi s A n c xs)(hb:bU w.heap.size w w'):b7 w' lo hi s A n c xs:=
 h.keep hb.size λb _ _ h3=>hb.block b h3
def b7.alloc (h:b7 w lo hi s A n c xs)(o:tT):b7 (w.alloc o) lo hi s A n c xs:=
 h.keep aP λb _ _ h3=>rA w o b h3
def b7.wide {x8 gT:Nat}(h:b7 w lo hi s A n c xs)(h1:x8<=lo)(h2:hi<=gT):b7 w x8 gT s A n c xs:=
 ⟨h.len,h.le,h.cap,λhn=>by obtain⟨b,off,e,k1,k2,k3,k4⟩:=h.at_ hn;exact⟨b,off,e,aC,aC,k3,k4⟩⟩
def eH (xs:List Int):List Value:=xs.map (aF.int .i64)
variable {k:Nat}{xs:List Int}
def zyy (h:k<xs.length):(eH xs)[k]? =some (.int .i64 xs[k]):=by simp[eH,h]
def b7.cellAt (h:b7 w lo hi 1 A n c (eH xs))(hk:k<n):∃b off v,A=some ⟨b,off,none⟩/\lo<=b/\b<hi/\b<w.heap.size/\xs[k]? =some v/\w.cell? ⟨b,off+k,none⟩=some (.int .i64 v):=by
 obtain⟨b,off,e,h1,h2,h3,h4⟩:=h.at_ aC;have hl:k<xs.length:=by have:=h.len;simp[eH] at this;omega
 exact⟨b,off,xs[k],e,h1,h2,h3,lV hl,h4 k _ (zyy hl)⟩
def b7.length (h:b7 w lo hi 1 A n c (eH xs)):xs.length=n:=by have:=h.len;simp[eH] at this;exact this
def zrn:(aK.info? 3).map (λi=>(i.zero,i.size,i.bytes))=some (some (.int .i64 0),1,8):=aQ
def eK (h:w.heap[N]? =some (.cells cs T))(o:Nat):w.frozen? ⟨N,o,none⟩=false:=by simp[S8,h]
def nQ {g i:Nat}(h:w.heap[g]? =some (.cells cs T fz))(v:aF):(w.setCell ⟨g,i,none⟩ v).heap[g]? =some (.cells (cs.setIfInBounds i v) T fz):=by
 simp[znm,ziO,h]
variable {ys:List Int}
def zEH {u v:Int}(h1:xs[k]? =some u)(h2:ys[k]? =some v)(aT:¬u=v):(xs==ys)=false:=by
 rw[beq_eq_false_iff_ne];intro e;subst e;rw[h1] at h2;injection h2 with h2;exact aT h2
def zGU (hl:xs.length=ys.length)(h:∀j:Nat,j<xs.length->xs[j]? =ys[j]?):(xs==ys)=true:=by
 rw[beq_iff_eq];apply Ra;intro j;rcases mY j xs.length with hj|hj
 .exact h j hj
 .rw[Ca hj,Ca aC]
def SaysB (w:aE)(t:Bool)(e:Ending)(w':aE):Prop:=e=.returned (.bool t)/\∃m,w'=w.drewN m
def zCC (lo hi n c x8 gT n' c':Nat)(A A':Option bL)(xs ys:List Int)(w:aE)(h:b7 w lo hi 1 A n c (eH xs))(h':b7 w x8 gT 1 A' n' c' (eH ys))(hn:n<=1048576)(sG:n'<=1048576):
 fH aK 22 #[.slice A n c,.slice A' n' c'] w (SaysB w (xs==ys)):=by
 have hl:=aD h.length;have yC:=aD h'.length;by_cases aT:n=n'
 .subst aT
  go_enter zoU,ztU
  go_wp2
  go_loopw [5] (λi wr=>∃k:Nat,k<=n/\i=.int .i64 k/\(∃m,wr=w.drewN m)/\∀j,j<k->xs[j]? =ys[j]?) (λi _=>n-(intOf i).toNat)
  case atStart=>exact⟨0,jO _,rfl,⟨0,rfl⟩,λj hj=>absurd hj aC⟩
  case round=>
   obtain⟨k,hk,rfl,⟨m,rfl⟩,fV⟩:=hrel;have HC:=aD fV;clear fV;by_cases aN:k<n
   .obtain⟨b,off,v,rfl,_,_,h3,eE,hv⟩:=h.cellAt aN
    obtain⟨b',Pp,v',rfl,_,_,zgY,B7,J2⟩:=h'.cellAt aN;have HX:=aD eE;have zbp:=aD B7;clear eE B7 h h';have i0:(0:Int)<=(k:Int):=aC;have i1:(k:Int)<(n:Int):=aC;by_cases qF:v=v'
    .have hb:(v !=v')=false:=by simp[qF]
     have HV:=aD qF;clear qF;go_wp2
     go_quiet (fail)
     go_wp2;go_roundw
     case rel=>exact⟨k+1,aC,nC,⟨_,rfl⟩,λj hj=>by
      by_cases e:j=k
      .subst e;rw[HX.o,zbp.o,HV.o]
      .exact HC.o j aC⟩
     case measure=>simp[intOf];omega
    .have hb:(v !=v')=true:=by simp[qF]
     have HV:=aD qF;clear qF;go_wp2
     go_quiet (fail)
     go_wp2;go_ret;exact⟨En (zEH HX.o zbp.o HV.o).symm,_,by first|rfl|exact aE.drewN_drewN _ _ _⟩
   .have e:k=n:=aC
    subst e;go_wp2;go_ret;exact⟨En (zGU (by rw[hl.o,yC.o]) (by rw[hl.o];exact HC.o)).symm,_,rfl⟩
 .have hq:((n:Int) !=(n':Int))=true:=by rw[bne_iff_ne];omega
  clear h h';have HN:=aD aT;clear aT
  go_enter zoU,ztU
  go_wp2;go_ret;exact⟨En zsV,0,rfl⟩
structure qC (lo hi:Nat)(w w':aE):Prop where
 os:w'.os=w.os
 tape:w'.tape=w.tape
 output:w'.output=w.output
 size:w.heap.size<=w'.heap.size
 block:∀i,i<w.heap.size->¬(lo<=i/\i<hi)->w'.heap[i]? =w.heap[i]?
def qC.refl (lo hi:Nat)(w:aE):qC lo hi w w:=⟨rfl,rfl,rfl,aV _,λ_ _ _=>rfl⟩
variable {a b:aE}
def qC.trans {c:aE}(h:qC lo hi a b)(k:qC lo hi b c):qC lo hi a c:=
 ⟨k.os.trans h.os,k.tape.trans h.tape,k.output.trans h.output,eM h.size k.size,λi hi aT=>(k.block i (lE hi h.size) aT).trans (h.block i hi aT)⟩
def qC.of_below (h:bU a.heap.size a b):qC lo hi a b:=⟨h.os,h.tape,h.output,h.size,λi hi _=>h.block i hi⟩
def qC.setCell (h:qC lo hi a b){p:bL}(h1:lo<=p.block)(h2:p.block<hi)(v:aF):qC lo hi a (b.setCell p v):=
 ⟨h.os,h.tape,h.output,by simpa[znm] using h.size,λi hi aT=>(eJ b p v i aC).trans (h.block i hi aT)⟩
variable {xs:List aF}
def b7.chg {l' h':Nat}(h:b7 w lo hi s A n c xs)(k:qC l' h' w w')(hd:hi<=l'\/h'<=lo):b7 w' lo hi s A n c xs:=
 h.keep k.size λb h1 h2 h3=>k.block b h3 aC
structure Own (w:aE)(lo hi:Nat)(A:Option bL)(n c:Nat)(xs:List Int):Prop where
 slc:b7 w lo hi 1 A n c (eH xs)
 blk:0<n->∃b cs,A=some ⟨b,0,none⟩/\w.heap[b]? =some (.cells cs 3)/\n<=cs.size
def Ny (k:Int)(n:Nat):List Int:=(gN n).map λj:Nat=>k+(j:Int)
def zrQ {k:Int}{j:Nat}(h:j<n):(Ny k n)[j]? =some (k+(j:Int)):=by simp[Ny,h]
def Marked (w:aE)(lo hi:Nat)(A:Option bL)(n c:Nat)(k:Int)(e:Ending)(w':aE):Prop:=
 e=.returned (.int .i64 (k+n))/\Own w' lo hi A n c (Ny k n)/\qC lo hi w w'/\w'.heap.size=w.heap.size
def zEI (lo hi n c:Nat)(A:Option bL)(xs:List Int)(k0:Int)(w:aE)(h:Own w lo hi A n c xs)(hn:n<=1048576)(iR:0<=k0)(n9:k0<=100000000000):
 fH aK 23 #[.slice A n c,.int .i64 k0] w (Marked w lo hi A n c k0):=by
 by_cases h0:n=0
 .subst h0
  have H:=h;clear h
  go_enter zou,zu5
  go_wp2
  go_loopw [1,5] (λq i wr=>q=.int .i64 k0/\i=.int .i64 0/\wr=w) (λ_ _ _=>0)
  case atStart=>exact⟨rfl,rfl,rfl⟩
  case round=>
   obtain⟨rfl,rfl,rfl⟩:=hrel;go_wp2;go_ret;exact⟨Ba aP,⟨⟨by simp[Ny,eH],H.slc.le,H.slc.cap,λhh=>absurd hh aC⟩,λhh=>absurd hh aC⟩,qC.refl _ _ _,rfl⟩
 .obtain⟨b,x9,rfl,Hl,zJp⟩:=h.blk aC
  obtain⟨b',off,e',h1,h2,h3,_⟩:=h.slc.at_ aC;injection e' with e';injection e' with e1 e2 e3;subst e1;have hle:=h.slc.le;have zey:=h.slc.cap;clear e2 e3 h;have N8:=aD Hl;clear Hl
  go_enter zou,zu5
  go_wp2
  go_loopw [1,5] (λq i wr=>∃k:Nat,k<=n/\q=.int .i64 (k0+k)/\i=.int .i64 k/\qC lo hi w wr/\wr.heap.size=w.heap.size/\∃cs:Array aF,wr.heap[b]? =some (.cells cs 3)/\n<=cs.size/\∀j,j<k->cs[j]? =some (.int .i64 (k0+j))) (λ_ i _=>n-(intOf i).toNat)
  case atStart=>exact⟨0,jO _,aP,rfl,qC.refl _ _ _,rfl,x9,N8.o,zJp,λj hj=>absurd hj aC⟩
  case round=>
   obtain⟨k,hk,rfl,rfl,B,Zp,cs,hb,cG,fV⟩:=hrel;have HC:=aD fV;have HB:=aD hb;have HW:=aD Zp;have hz:=gA hb;have hc:=aJ hb;have hf:=eK hb;clear fV hb Zp;by_cases aN:k<n
   .have Dz:∃u,cs[k]? =some u:=⟨cs[k]' aC,mD _⟩
    obtain⟨u,hu⟩:=Dz;go_wp2;go_roundw
    case rel=>exact⟨k+1,aC,nC,nC,B.setCell h1 h2 _,by simp[HW.o],cs.setIfInBounds k (.int .i64 (k0+k)),nQ HB.o _,by simp;exact cG,λj hj=>by
     by_cases e:j=k
     .subst e
      rw[Lx aC]
     .rw[jP aC];exact HC.o j aC⟩
    case measure=>simp[intOf];omega
   .have e:k=n:=aC
    subst e;go_wp2;go_ret;refine⟨rfl,⟨⟨by simp[Ny,eH],hle,zey,λ_=>⟨b,0,rfl,h1,h2,hz,λj v hv=>?_⟩⟩,λ_=>⟨b,cs,rfl,HB.o,cG⟩⟩,B,HW.o⟩;have hj:j<k:=by
     rcases mY j k with hh|hh
     .exact hh
     .rw[Ca (by simp[Ny,eH];exact hh)] at hv;cases hv
    rw[qX,hc,HC.o j hj,<-hv];simp[eH,zrQ hj]
structure qT (E s:Nat)(w:aE)(lo hi:Nat)(A:Option bL)(n c:Nat)(xs:List aF):Prop where
 slc:b7 w lo hi s A n c xs
 blk:0<n->∃b cs,A=some ⟨b,0,none⟩/\w.heap[b]? =some (.cells cs E)/\n*s<=cs.size
section
variable {E s:Nat}{w w':aE}{lo hi n c:Nat}{A:Option bL}{xs:List aF}
def qT.keep (h:qT E s w lo hi A n c xs)(hs:w.heap.size<=w'.heap.size)(k:∀b,lo<=b->b<hi->b<w.heap.size->w'.heap[b]? =w.heap[b]?):qT E s w' lo hi A n c xs:=
 ⟨h.slc.keep hs k,λhn=>by
  obtain⟨b,cs,e,hb,hc⟩:=h.blk hn;obtain⟨b',off,e',h1,h2,h3,_⟩:=h.slc.at_ hn;rw[e] at e';injection e' with e';injection e' with e1 e2 e3;subst e1;exact⟨b,cs,e,(k b h1 h2 h3).trans hb,hc⟩⟩
def qT.chg {l' h':Nat}(h:qT E s w lo hi A n c xs)(k:qC l' h' w w')(hd:hi<=l'\/h'<=lo):qT E s w' lo hi A n c xs:=
 h.keep k.size λb h1 h2 h3=>k.block b h3 aC
def qT.below (h:qT E s w lo hi A n c xs)(k:bU w.heap.size w w'):qT E s w' lo hi A n c xs:=h.keep k.size λb _ _ h3=>k.block b h3
def ziv {base:Nat}{v:aF}(h:w.ownsRow base E s v n xs)(hs:0<s):∃A c,v=.slice A n c/\qT E s w base w.heap.size A n c xs:=by
 obtain⟨hl,h|⟨g,cap,cur,rfl,hb,hg,hn,hc,cG,ht⟩⟩:=h
 .obtain⟨rfl,rfl⟩:=h
  exact⟨none,0,rfl,⟨⟨hl,aV _,jO _,λh=>absurd h aC⟩,λh=>absurd h aC⟩⟩
 .refine⟨_,cap,rfl,⟨⟨hl,hn,hc,λh0=>⟨g,0,rfl,hb,gA hg,gA hg,λj v hv=>?_⟩⟩,λh0=>⟨g,cur,rfl,hg,by rw[cG];exact Aa _ hn⟩⟩⟩
  rw[qX,aJ hg];rw[<-ht] at hv;have hj:j<n*s:=by
   rcases mY j (n*s) with h|h
   .exact h
   .rw[Ca (by rw[rU];omega)] at hv;cases hv
  rw[List.getElem?_take_of_lt hj] at hv;simpa using hv
def b7.cells (h:b7 w lo hi s A n c xs){k:Nat}(hk:k<n):∃b off,A=some ⟨b,off,none⟩/\lo<=b/\b<hi/\b<w.heap.size/\∀f v,xs[k*s+f]? =some v->w.cell? ⟨b,off+(k*s+f),none⟩=some v:=by
 obtain⟨b,off,e,h1,h2,h3,h4⟩:=h.at_ aC;exact⟨b,off,e,h1,h2,h3,λf v hv=>h4 _ v hv⟩
end
variable {E:Nat}
def zAP {m:Nat}(hb:w'.heap[w.heap.size]? =some (.cells cs E))(hz:w.heap.size<w'.heap.size)(hn:cs.size=m*s)(hm:n<=m)(zwY:m<=maxLen)(hx:xs.length=n*s)
 (hc:∀j,j<n*s->cs[j]? =xs[j]?):qT E s w' w.heap.size w'.heap.size (some ⟨w.heap.size,0,none⟩) n m xs:=
 ⟨⟨
  hx,hm,zwY,λh0=>⟨_,0,rfl,aV _,hz,hz,λj v hv=>by
  have hj:j<n*s:=by
   rcases mY j (n*s) with h|h
   .exact h
   .rw[Ca aC] at hv;cases hv
  rw[qX,aJ hb,hc j hj,hv]⟩⟩,λ_=>⟨_,cs,rfl,hb,by rw[hn];exact Aa _ hm⟩⟩
def str_eq {s s':ByteArray}(h:(s.toList==s'.toList)=true):s=s':=by
 rw[beq_iff_eq,zrA,zrA] at h;exact ByteArray.ext (Array.toList_inj.1 h)
variable {α:Type}
def H4 (f:α->List aF)(hf:∀a,(f a).length=s):∀(l:List α) (k i:Nat),i<s->(l.flatMap f)[k*s+i]? =(l[k]?).bind λa=>(f a)[i]?
 |[],k,i,_=>by simp
 |a::l,0,i,hi=>by
  rw[zda,zbf,qX,List.getElem?_append_left (by rw[hf];exact hi)];rfl
 |a::l,k+1,i,hi=>by
  rw[zda,List.getElem?_append_right (by rw[hf,zhK];omega),hf,show(k+1)*s+i-s=k*s+i by rw[zhK];omega,H4 f hf l k i hi];rfl
def Fe (f:α->List aF)(hf:∀a,(f a).length=s)(l:List α):(l.flatMap f).length=l.length*s:=by
 induction l with
 |nil=>simp
 |cons a l ih=>rw[zda,gM,ih,hf,pX,zhK];omega
variable {v:aF}
def ztF {W':aE}{base n:Nat}{w0:aE}(h:w0.ownsRow base E s v n xs)(g:W.grownBy W' v.ownBlock)(hb:base<=W.heap.size):bU base W W':=
 ⟨g.os,g.tape,g.output,g.size,λi hi=>g.block i aC (by
  obtain⟨_,h|⟨b,cap,cur,rfl,h1,_⟩⟩:=h
  .rw[h.1];simp[J1]
  .simp[J1];omega)⟩
def znw {base n:Nat}(h:w.ownsRow base E s v n xs)(hv:¬v=.slice none 0 0):∃g c,v=.slice (some ⟨g,0,none⟩) n c:=by
 obtain⟨_,h|⟨b,cap,cur,rfl,h1,_⟩⟩:=h
 .exact absurd h.1 hv
 .exact⟨b,cap,rfl⟩
def M9 {base g:Nat}(hb:base<=g)(hg:w.heap[g]? =some (.cells #[] E)):w.ownsRow base E s (.slice (some ⟨g,0,none⟩) 0 0) 0 []:=
 ⟨aP,.inr ⟨g,0,#[],rfl,hb,hg,aV _,jO _,aP,aP⟩⟩
def zX {base n:Nat}(h:w.ownsRow base E s v n xs)(hb:∀b,b<w.heap.size->w'.heap[b]? =w.heap[b]?):w'.ownsRow base E s v n xs:=by
 obtain⟨hl,h|⟨g,cap,cur,rfl,h1,hg,h2⟩⟩:=h
 .exact⟨hl,.inl h⟩
 .exact⟨hl,.inr ⟨g,cap,cur,rfl,h1,(hb g (gA hg)).trans hg,h2⟩⟩
def zu3 {base n:Nat}(h:w.ownsRow base E s v n xs)(hb:bU w.heap.size w w'):w'.ownsRow base E s v n xs:=zX h λb h=>hb.block b h
def J6 (h:w.heap[N]? =some o):w.drew.heap[N]? =some o:=h
def zaw {B:Nat}(h:bU B a w):bU B a w.drew:=⟨h.os,h.tape,h.output,h.size,h.block⟩
def mI (w:aE)(o:tT){b:Nat}(hb:b=w.heap.size):(w.alloc o).heap[b]? =some o:=by subst hb;exact lP w o
section
variable {P:bR}(w:aE)
def zjh (t ty:aM)(base:Nat)(e:aM)(i:wY)(z:aF)(size bytes:Nat)(ht:P.underlying t=some (.slice e))(hi:P.info? e=some i)(hz:i.zero=some z)
 (wS:i.size=size) (uS:i.bytes=bytes) (hzs:z.cells.size=size) (cG:0<size)
 (v:aF) (n:Nat) (xs:List aF) (cP:w.ownsRow base e size v n xs) (hv:¬v=.slice none 0 0)
 (ad:bL) (m c:Nat) (news:List aF) (hl:news.length=m*size) (Ex:∀j u,news[j]? =some u->w.cell? (ad.add j)=some u) (h1:∀u∈news,u.oneCell'=true)
 (xC:n+m<=maxLen) (xJ:(n+m)*bytes<=140737488355328) (rS:base<=w.heap.size):
 ∃g cap w',(wL #[t,t] ty #[v,.slice (some ad) m c]).run P w=.ok (.slice (some ⟨g,0,none⟩) (n+m) cap) w'/\
  w'.ownsRow base e size (.slice (some ⟨g,0,none⟩) (n+m) cap) (n+m) (xs++news)/\w.grownBy w' v.ownBlock/\bU base w w':=by
 obtain⟨v',w',hr,h2,h3,h4,h5⟩:=zwj (P:=P) w base t ty e i z size bytes ht hi hz wS uS hzs cG v n xs cP ad m c news hl Ex h1 xC xJ rS;obtain⟨g,cap,rfl⟩:=znw h2 (λh=>hv (h4.1 h).1);exact⟨g,cap,w',hr,h2,h3,ztF cP h3 rS⟩
variable {o:aZ}{a:Act}
def zsY {K:Act->aE->Prop}{Q:Exit->Act->aE->Prop}(s x:cN)(t:aM)
 (ho:o.op=.call {callee:=.builtin .append,args:=#[s,x],argTypes:=#[t,t]})
 (base:Nat) (e:aM) (i:wY) (z:aF) (size bytes:Nat) (ht:P.underlying t=some (.slice e)) (hi:P.info? e=some i) (hz:i.zero=some z)
 (wS:i.size=size) (uS:i.bytes=bytes) (hzs:z.cells.size=size) (cG:0<size)
 (v:aF) (n:Nat) (xs:List aF) (hs:a.eval s=v) (cP:w.ownsRow base e size v n xs) (hv:¬v=.slice none 0 0)
 (ad:bL) (m c:Nat) (news:List aF) (hx:a.eval x=.slice (some ad) m c) (hl:news.length=m*size) (Ex:∀j u,news[j]? =some u->w.cell? (ad.add j)=some u) (h1:∀u∈news,u.oneCell'=true)
 (xC:n+m<=maxLen) (xJ:(n+m)*bytes<=140737488355328) (rS:base<=w.heap.size)
 (h:∀g cap w',w'.ownsRow base e size (.slice (some ⟨g,0,none⟩) (n+m) cap) (n+m) (xs++news)->w.grownBy w' v.ownBlock->bU base w w'->K (a.put o.dst (.slice (some ⟨g,0,none⟩) (n+m) cap)) w'):o.wp P a w K Q:=by
 obtain⟨g,cap,w',hr,h2,h3,h4⟩:=zjh (P:=P) w t o.type base e i z size bytes ht hi hz wS uS hzs cG v n xs cP hv ad m c news hl Ex h1 xC xJ rS;unfold B8 execOp;simp only[ho,resolve,invoke,builtin,Et,Jd,Fa,uW,fL,tM,hs,hx,hr];exact h g cap w' h2 h3 h4
variable {ops:Array aZ}
def zjc {rest:List aZ}{Q:Exit->Act->aE->Prop}(Fp:o.guard=none)(s x:cN)(t:aM)
 (ho:o.op=.call {callee:=.builtin .append,args:=#[s,x],argTypes:=#[t,t]})
 (base:Nat) (e:aM) (i:wY) (z:aF) (size bytes:Nat) (ht:P.underlying t=some (.slice e)) (hi:P.info? e=some i) (hz:i.zero=some z)
 (wS:i.size=size) (uS:i.bytes=bytes) (hzs:z.cells.size=size) (cG:0<size)
 (v:aF) (n:Nat) (xs:List aF) (hs:a.eval s=v) (cP:w.ownsRow base e size v n xs) (hv:¬v=.slice none 0 0)
 (ad:bL) (m c:Nat) (news:List aF) (hx:a.eval x=.slice (some ad) m c) (hl:news.length=m*size) (Ex:∀j u,news[j]? =some u->w.cell? (ad.add j)=some u) (h1:∀u∈news,u.oneCell'=true)
 (xC:n+m<=maxLen) (xJ:(n+m)*bytes<=140737488355328) (rS:base<=w.heap.size)
 (h:∀g cap w',w'.ownsRow base e size (.slice (some ⟨g,0,none⟩) (n+m) cap) (n+m) (xs++news)->w.grownBy w' v.ownBlock->bU base w w'->wpList P ops Q rest (a.put o.dst (.slice (some ⟨g,0,none⟩) (n+m) cap)) w'):wpList P ops Q (o::rest) a w:=
 wpList_plain Fp λ_ hK=>zsY w s x t ho base e i z size bytes ht hi hz wS uS hzs cG v n xs hs cP hv ad m c news hx hl Ex h1 xC xJ rS λg cap w' h2 h3 h4=>hK _ _ (h g cap w' h2 h3 h4)
def zn1 {K:Act->aE->Prop}{Q:Exit->Act->aE->Prop}{EE:Prop}(Fp:o.guard=none)(s x:cN)(t:aM)
 (ho:o.op=.call {callee:=.builtin .append,args:=#[s,x],argTypes:=#[t,t]})
 (base:Nat) (e:aM) (i:wY) (z:aF) (size bytes:Nat) (ht:P.underlying t=some (.slice e)) (hi:P.info? e=some i) (hz:i.zero=some z)
 (wS:i.size=size) (uS:i.bytes=bytes) (hzs:z.cells.size=size) (cG:0<size)
 (v:aF) (n:Nat) (xs:List aF) (hs:a.eval s=v) (cP:w.ownsRow base e size v n xs) (hv:¬v=.slice none 0 0)
 (ad:bL) (m c:Nat) (news:List aF) (hx:a.eval x=.slice (some ad) m c) (hl:news.length=m*size) (Ex:∀j u,news[j]? =some u->w.cell? (ad.add j)=some u) (h1:∀u∈news,u.oneCell'=true)
 (xC:n+m<=maxLen) (xJ:(n+m)*bytes<=140737488355328) (rS:base<=w.heap.size)
 (h:∀g cap w',w'.ownsRow base e size (.slice (some ⟨g,0,none⟩) (n+m) cap) (n+m) (xs++news)->w.grownBy w' v.ownBlock->bU base w w'->K (a.put o.dst (.slice (some ⟨g,0,none⟩) (n+m) cap)) w'):
 if dD o (dR ops a.tmps)=true then B8 P o a w K Q else EE:=by
 have hw:dD o (dR ops a.tmps)=true:=by simp[dD,Fp]
 rw[if_pos hw];exact zsY w s x t ho base e i z size bytes ht hi hz wS uS hzs cG v n xs hs cP hv ad m c news hx hl Ex h1 xC xJ rS h
end
def zqa (xs:List Int):∀u∈eH xs,u.oneCell'=true:=by
 intro u hu;obtain⟨x,_,rfl⟩:=Jr.1 hu;rfl
def y9 {base n c:Nat}(h:w.ownsRow base E s (.slice A n c) n xs)(hs:0<s):b7 w base w.heap.size s A n c xs:=by
 obtain⟨A',c',e,o⟩:=ziv h hs;injection e with e1 e2 e3;subst e1 e3;exact o.slc
def Wl (u:Nat):List UInt8:=if u=0 then[] else Ls u
def ziM (k:Nat):ByteArray:=⟨(109::(if k=0 then[48] else Ls k)).toArray⟩
def zCo {u:Nat}(h:0<u):Wl u=Wl (u/10)++[Rg (48+u%10)]:=by
 unfold Wl;rw[if_neg aC];by_cases He:u<10
 .rw[if_pos aC,ztN He,Nat.mod_eq_of_lt He];rfl
 .rw[if_neg aC,Ls,dif_neg He]
def Hx (a b:Array UInt8):(⟨a⟩:ByteArray)++⟨b⟩=⟨a++b⟩:=by
 apply ByteArray.ext;simp[ByteArray.data_append]
def Nb (hk:k<=100000000):(Ls k).length<=20:=by
 rw[Lib.decDigits_length];exact Lib.nDigits_le20 k aC
def cv1 (w:aE)(x:Nat)(hx:x<=255):(convert 42 9 (.slice (some ⟨w.heap.size,0,none⟩) 1 1)).run aK (w.alloc (.cells #[.int .u8 (x:Int)] 5))=.ok (.string ⟨[Rg x].toArray⟩) (w.alloc (.cells #[.int .u8 (x:Int)] 5)):=
 run_convert_bytes_back (P:=aK) _ 42 9 5 ⟨w.heap.size,0,none⟩ 1 [Rg x] Tryz.underlying42 Tryz.underlying5 Tryz.underlying9 (λj hj=>by
  obtain rfl:j=0:=by simp at hj;omega
  simp[ze1];omega)
def zzp (k:Nat)(hk:k<=100000000)(w:aE):
 fH aK 44 #[.int .i64 k] w λe w'=>e=.returned (.string (ziM k))/\bU w.heap.size w w':=by
 by_cases h0:k=0
 .subst h0
  go_enter ztm,zx6
  go_wp2;go_ret;exact⟨rfl,eG _ _⟩
 .go_enter ztm,zx6
  go_wp2
  go_loopw [0,3] (λa s wr=>∃(u:Nat) (l:List UInt8),a=.int .i64 u/\s=.string ⟨l.toArray⟩/\u<=100000000/\Wl u++l=Ls k/\bU w.heap.size w wr) (λa _ _=>(intOf a).toNat)
  case atStart=>exact⟨k,[],rfl,rfl,hk,by simp[Wl,h0],eG _ _⟩
  case round=>
   obtain⟨u,l,rfl,rfl,hu,hl,B⟩:=hrel;have HL:=aD hl;by_cases aN:0<u
   .have zaB:=cv1 wr (48+u%10) aC
    rw[show((48+u%10:Nat):Int)=48+(u:Int)%10 by omega] at zaB;have Fl:l.length<=20:=by have:=congrArg Yn HL.o;rw[gM] at this;have:=Nb (k:=k) aC;omega
    have HD:=aD (zCo aN);go_wp2;go_roundw
    case rel=>exact⟨u/10,Rg (48+u%10)::l,by first|rfl|(congr 1;omega),by rw[Hx];simp,aC,by rw[<-HL.o,HD.o];simp,dO B _⟩
    case measure=>simp[intOf];omega
   .have zCD:u=0:=aC
    subst zCD;have Fl:l.length<=20:=by have:=congrArg Yn HL.o;rw[gM] at this;have:=Nb (k:=k) aC;omega
    have HT:=aD (show(⟨#[109]⟩:ByteArray)++⟨l.toArray⟩=ziM k by rw[Hx,ziM,if_neg h0,<-HL.o];simp[Wl]);go_wp2;go_ret;exact⟨by rw[HT.o];rfl,B⟩
end Go.Proofs.YtfcjiloojkjaeaaGreatDoor
namespace Go.Proofs.YtfcjiloojkjaeaaGreatDoor
open Go.Joins Go.ChangeShapes Go.WideShapes Go.RowKit Go.Deep
section
variable {H:Type}{enc:aM×aF->H}{P:bR}{w:aE}{base:Nat}{held:Bool}
def add_plain (b off j:Nat):(bL.mk b off none).add j=⟨b,off+j,none⟩:=by unfold ze1;split<;>simp_all
end
end Go.Proofs.YtfcjiloojkjaeaaGreatDoor
namespace Go.Proofs.YtfcjiloojkjaeaaGreatDoor
open Go.RowKit
structure bS where
 c:Int
 l:Int
 o:Int
 f:Int
 h:Int
 t:Int
 e:ByteArray
 deriving DecidableEq
def bS.cells (d:bS):List Value:=[.int .i64 d.c,.int .i64 d.l,.int .i64 d.o,.int .i64 d.f,.int .i64 d.h,.int .i64 d.t,.string d.e]
def recs (ds:List bS):List Value:=ds.flatMap bS.cells
def zqX (ds:List bS):(recs ds).length=ds.length*7:=Fe bS.cells (s:=7) (λ_=>rfl) ds
variable {ds:List bS}{k:Nat}
def zyY {d:bS}(h:ds[k]? =some d):(recs ds)[k*7+0]? =some (.int .i64 d.c)/\(recs ds)[k*7+1]? =some (.int .i64 d.l)/\(recs ds)[k*7+2]? =some (.int .i64 d.o)/\(recs ds)[k*7+3]? =some (.int .i64 d.f)/\(recs ds)[k*7+4]? =some (.int .i64 d.h)/\(recs ds)[k*7+5]? =some (.int .i64 d.t)/\(recs ds)[k*7+6]? =some (.string d.e):=by
 have e:=λi hi=>H4 bS.cells (s:=7) (λ_=>rfl) ds k i hi;unfold recs;rw[e 0 aC,e 1 aC,e 2 aC,e 3 aC,e 4 aC,e 5 aC,e 6 aC,h];exact⟨rfl,rfl,rfl,rfl,rfl,rfl,rfl⟩
variable {w:aE}{lo hi n c:Nat}{A:Option bL}
def b7.recLen (h:b7 w lo hi 7 A n c (recs ds)):ds.length=n:=by
 have:=h.len;rw[zqX] at this;omega
structure RecAt (w:aE)(b off:Nat)(d:bS):Prop where
 c0:w.cell? ⟨b,off,none⟩=some (.int .i64 d.c)
 c1:w.cell? ⟨b,off+1,none⟩=some (.int .i64 d.l)
 c2:w.cell? ⟨b,off+2,none⟩=some (.int .i64 d.o)
 c3:w.cell? ⟨b,off+3,none⟩=some (.int .i64 d.f)
 c4:w.cell? ⟨b,off+4,none⟩=some (.int .i64 d.h)
 c5:w.cell? ⟨b,off+5,none⟩=some (.int .i64 d.t)
 c6:w.cell? ⟨b,off+6,none⟩=some (.string d.e)
def b7.recAt (h:b7 w lo hi 7 A n c (recs ds))(hk:k<n):
 ∃b off d,A=some ⟨b,off,none⟩/\lo<=b/\b<hi/\b<w.heap.size/\ds[k]? =some d/\RecAt w b (off+k*7) d:=by
 obtain⟨b,off,e,h1,h2,h3,h4⟩:=h.cells hk;have hl:k<ds.length:=by rw[h.recLen];exact hk
 obtain⟨g0,g1,g2,g3,g4,g5,g6⟩:=zyY (lV hl);exact⟨b,off,ds[k],e,h1,h2,h3,lV hl,⟨h4 0 _ g0,h4 1 _ g1,h4 2 _ g2,h4 3 _ g3,h4 4 _ g4,h4 5 _ g5,h4 6 _ g6⟩⟩
def recP (c l o f h t:Int)(e:List UInt8):Prop:=
 1<=c/\c<=99/\1<=l/\l<=6/\0<=o/\o<=4/\0<=f/\f<=3600/\
  (
   (e=[111,112,101,110]/\t= -1/\((o=0/\h= -1)\/(o≠0/\f<=h/\h<=3600)))\/
   (e=[100,111,110,101]/\o≠0/\f<=h/\h<=t/\t<=3600)\/
   ((e=[108,101,102,116]\/e=[116,105,114,101,100])/\o=0/\h= -1/\f<=t/\t<=3600))
instance (c l o f h t:Int)(e:List UInt8):Decidable (recP c l o f h t e):=by unfold recP;infer_instance
def recB (c l o f h t:Int)(e:List UInt8):Bool:=decide (recP c l o f h t e)
def overP (o f h t:Int)(e:List UInt8):Prop:=
 (e=[100,111,110,101]/\0<o/\f<=h/\h<=t/\t<=3600/\f<=t)\/
  ((e=[108,101,102,116]\/e=[116,105,114,101,100])/\o=0/\h= -1/\f<=t/\t<=3600)
instance (o f h t:Int)(e:List UInt8):Decidable (overP o f h t e):=by unfold overP;infer_instance
def b7.rec7 (h:b7 w lo hi 7 A n c (recs ds))(hk:k<n):
 ∃b off d,A=some ⟨b,off,none⟩/\lo<=b/\b<hi/\b<w.heap.size/\ds[k]? =some d/\w.cell? ⟨b,off+k*7,none⟩=some (.int .i64 d.c)/\w.cell? ⟨b,off+k*7+1,none⟩=some (.int .i64 d.l)/\w.cell? ⟨b,off+k*7+2,none⟩=some (.int .i64 d.o)/\w.cell? ⟨b,off+k*7+3,none⟩=some (.int .i64 d.f)/\w.cell? ⟨b,off+k*7+4,none⟩=some (.int .i64 d.h)/\w.cell? ⟨b,off+k*7+5,none⟩=some (.int .i64 d.t)/\w.cell? ⟨b,off+k*7+6,none⟩=some (.string d.e):=by
 obtain⟨b,off,d,e,h1,h2,h3,hd,⟨c0,c1,c2,c3,c4,c5,c6⟩⟩:=h.recAt hk;exact⟨b,off,d,e,h1,h2,h3,hd,c0,c1,c2,c3,c4,c5,c6⟩
def zxq:(aK.info? 50).map (λi=>(i.zero,i.size,i.bytes))=some (some (.agg #[.int .i64 0,.int .i64 0,.int .i64 0,.int .i64 0,.int .i64 0,.int .i64 0,.string ⟨#[]⟩]),7,64):=aQ
variable {α:Type}
def zIS {l:List α}{a:α}(h:l[k]? =some a):l.drop k=a::l.drop (k+1):=by
 obtain⟨hk,e⟩:=jX.1 h;rw[List.drop_eq_getElem_cons hk,e]
def zAE {p:α->Bool}{l:List α}{a:α}(h:∀j,j<k->∀b,l[j]? =some b->p b=true)(hk:l[k]? =some a)(ha:p a=true):∀j,j<k+1->∀b,l[j]? =some b->p b=true:=by
 intro j hj b hb;by_cases e:j=k
 .subst e;rw[hk] at hb;injection hb with hb;subst hb;exact ha
 .exact h j aC b hb
def zEO {p:α->Bool}{l:List α}(h:∀j,j<k->∀b,l[j]? =some b->p b=true)(hk:l.length<=k):l.all p=true:=by
 rw[List.all_eq_true];intro a ha;obtain⟨j,hj,e⟩:=L9.1 ha;exact h j aC a (by rw[lV hj,e])
def zIQ {p:α->Bool}{l:List α}{a:α}(hk:l[k]? =some a)(ha:p a=false):l.all p=false:=by
 rw[List.all_eq_false];exact⟨a,dX hk,by simp[ha]⟩
structure bE where
 c:Int
 p:Int
 deriving DecidableEq
def bE.cells (x:bE):List Value:=[.int .i64 x.c,.int .i64 x.p]
def bG (xs:List bE):List Value:=xs.flatMap bE.cells
structure jN where
 ln:Int
 op:Int
 pt:Int
 deriving DecidableEq
structure dG where
 k:ByteArray
 a:Int
 b:Int
 deriving DecidableEq
def dG.cells (x:dG):List Value:=[.string x.k,.int .i64 x.a,.int .i64 x.b]
def lM (xs:List dG):List Value:=xs.flatMap dG.cells
def eL (d:bS):Bool:=d.e.toList==[111,112,101,110]
def As (c:Int)(d:bS):Bool:=d.c==c&&eL d
def jI (rs:List bS)(c:Int):Option Nat:=rs.findIdx? (As c)
def G5:Option Nat->Int
 |some i=>(i:Int)
 |none=>-1
def vT (op:Int)(d:bS):Bool:=d.o==op&&eL d
def dK (rs:List bS)(op:Int):Int:=match rs.find? (vT op) with|some d=>d.c|none=>0
def q8 (rs:List bS)(l:Int):Bool:=rs.any λd=>d.l==l&&eL d
def xU (rs:List bS)(n:Nat):List Int:=((gN n).map λi:Nat=>(i:Int)+1).filter λl=>!q8 rs l
def oE (o:jN)(rs:List bS):List Int:=xU rs o.ln.toNat
def vP (xs:List bE)(c:Int):Option Nat:=xs.findIdx? λx=>x.c==c
def dY (xs:List bE)(c:Int):List bE:=xs.filter λx=>x.c !=c
def tH (xs:List bE)(c:bE):List bE:=xs.takeWhile (λx=>decide (c.p<=x.p))++c::xs.dropWhile (λx=>decide (c.p<=x.p))
structure b6 where
 o:jN
 clk:Int
 recs:List bS
 wait:List bE
 back:List bE
 log:List (List UInt8)
def F5:ByteArray:=⟨#[100,111,110,101]⟩
def Bv:ByteArray:=⟨#[108,101,102,116]⟩
def Dx:ByteArray:=⟨#[116,105,114,101,100]⟩
def eO:ByteArray:=⟨#[111,112,101,110]⟩
def Kr (b:b6)(i:Nat)(e:ByteArray):List bS:=b.recs.modify i λd=>{d with t:=b.clk,e:=e}
def F8 (rs:List bS)(i:Nat):Int:=match rs[i]? with|some d=>d.c|none=>0
def lD (b:b6)(i:Nat)(e:ByteArray):b6:={b with recs:=Kr b i e,wait:=dY b.wait (F8 b.recs i)}
def jM (n:Int):List UInt8:=Kq n
def qB (b:b6)(c:bE):b6×List UInt8:=
 if(jI b.recs c.c).isSome||(vP b.back c.c).isSome then(b,[107,110,111,119,110])
 else match oE b.o b.recs with
  |[]=>({b with back:=b.back++[c]},[98,117,115,121])
  |l::_=>({b with recs:=b.recs++[⟨c.c,l,0,b.clk,-1,-1,eO⟩],wait:=tH b.wait c},[108,105,110,101,32]++jM l)
def nH (b:b6)(op:Int):b6×List UInt8:=
 if 0<dK b.recs op then(b,[116,97,108,107,115])
 else match b.wait with
  |[]=>(b,[110,111,110,101])
  |c::_=>match jI b.recs c.c with
   |none=>(b,[])
   |some i=>({b with recs:=b.recs.modify i λd=>{d with o:=op,h:=b.clk},wait:=dY b.wait c.c},[99,97,108,108,32]++jM c.c)
def lZ (b:b6)(op:Int):b6×List UInt8:=
 if 0<dK b.recs op then(b,[116,97,108,107,115])
 else match b.back with
  |[]=>(b,[110,111,110,101])
  |c::_=>match oE b.o b.recs with
   |[]=>(b,[98,117,115,121])
   |l::_=>({b with back:=dY b.back c.c,recs:=b.recs++[⟨c.c,l,op,b.clk,b.clk,-1,eO⟩]},[99,97,108,108,32]++jM c.c)
def opAt (rs:List bS)(i:Nat):Int:=match rs[i]? with|some d=>d.o|none=>0
def mJ (b:b6)(c:Int):b6×List UInt8:=
 match jI b.recs c with
 |some i=>if 0<opAt b.recs i then(lD b i F5,[100,111,110,101]) else(lD b i Bv,[108,101,102,116])
 |none=>if(vP b.back c).isSome then({b with back:=dY b.back c},[111,102,102]) else(b,[103,111,110,101])
def Ys (rs:List bS)(i:Nat):Int:=match rs[i]? with|some d=>d.f|none=>0
def l9 (bt:b6×List UInt8)(x:bE):b6×List UInt8:=
 match jI bt.1.recs x.c with
 |none=>bt
 |some i=>if bt.1.o.pt<=bt.1.clk-Ys bt.1.recs i then
  ({lD bt.1 i Dx with back:=bt.1.back++[x]},bt.2++[32]++jM x.c) else bt
def uJ (b:b6)(m:Int):b6×List UInt8:=b.wait.foldl l9 ({b with clk:=b.clk+m},[97,116,32]++jM (b.clk+m))
def Jq:List UInt8:=[114,105,110,103]
def L5:List UInt8:=[104,97,110,103]
def Jb:List UInt8:=[97,110,115,119,101,114]
def H0:List UInt8:=[114,101,116,117,114,110]
def zbF:List UInt8:=[119,97,105,116]
def eU (b:b6)(e:dG):b6×List UInt8:=
 if e.k.toList=Jq then qB b ⟨e.a,e.b⟩ else if e.k.toList=Jb then nH b e.a else if e.k.toList=H0 then lZ b e.a else if e.k.toList=L5 then mJ b e.a else uJ b e.a
def Kc (ops:Int)(e:dG):Prop:=
 (e.k.toList=Jq/\1<=e.a/\e.a<=99/\0<=e.b/\e.b<=9)\/(e.k.toList=L5/\1<=e.a/\e.a<=99/\e.b=0)\/((e.k.toList=Jb\/e.k.toList=H0)/\1<=e.a/\e.a<=ops/\e.b=0)\/(e.k.toList=zbF/\1<=e.a/\e.a<=60/\e.b=0)
instance (ops:Int)(e:dG):Decidable (Kc ops e):=by unfold Kc;infer_instance
def sN (ops:Int)(e:dG):Bool:=decide (Kc ops e)
def sE (o:jN):Bool:=decide (1<=o.ln/\o.ln<=6/\1<=o.op/\o.op<=4/\1<=o.pt/\o.pt<=60)
def j9 (o:jN)(es:List dG):Bool:=sE o&&decide (es.length<=60)&&es.all (sN o.op)
def lW (o:jN):b6:=⟨o,0,[],[],[],[]⟩
def Ei (bt:b6×List UInt8):b6:={bt.1 with log:=bt.1.log++[bt.2]}
def H9 (o:jN)(es:List dG):b6:=es.foldl (λb e=>Ei (eU b e)) (lW o)
def y5 (o:jN)(es:List dG):b6:=if j9 o es then H9 o es else lW o
variable {ds:List dG}
def b7.eventsLen (h:b7 w lo hi 3 A n c (lM ds)):ds.length=n:=by
 have h1:=h.len;have h2:=Fe dG.cells (s:=3) (λ_=>rfl) ds;unfold lM at h1;omega
def b7.eventsAt (h:b7 w lo hi 3 A n c (lM ds))(hk:k<n):
 ∃b off d,A=some ⟨b,off,none⟩/\lo<=b/\b<hi/\b<w.heap.size/\ds[k]? =some d/\w.cell? ⟨b,off+k*3,none⟩=some (.string d.k)/\w.cell? ⟨b,off+k*3+1,none⟩=some (.int .i64 d.a)/\w.cell? ⟨b,off+k*3+2,none⟩=some (.int .i64 d.b):=by
 have hl:=h.eventsLen;have hx:ds[k]? =some ds[k]:=lV aC;have g:∀i,i<3->(lM ds)[k*3+i]? =(ds[k].cells)[i]? :=λi hi=>by
  have:=H4 dG.cells (s:=3) (λ_=>rfl) ds k i hi;rw[hx] at this;exact this
 obtain⟨b,off,rfl,h1,h2,h3,h4⟩:=h.cells hk;exact⟨b,off,ds[k],rfl,h1,h2,h3,hx,h4 0 _ (g 0 aH),by rw[Zz];exact h4 1 _ (g 1 aH),by rw[Zz];exact h4 2 _ (g 2 aH)⟩
def zg5 (ds:List dG):(lM ds).length=ds.length*3:=Fe dG.cells (s:=3) (λ_=>rfl) ds
variable {d:dG}
def zu6 (h:ds[k]? =some d):(lM ds)[k*3+0]? =some (.string d.k)/\(lM ds)[k*3+1]? =some (.int .i64 d.a)/\(lM ds)[k*3+2]? =some (.int .i64 d.b):=by
 have e:=λi hi=>H4 dG.cells (s:=3) (λ_=>rfl) ds k i hi;unfold lM;rw[e 0 aC,e 1 aC,e 2 aC,h];exact⟨rfl,rfl,rfl⟩
def zAK {cs:Array aF}(h:ds[k]? =some d)(hs:k*3+3<=cs.size)(hc:∀j,j<k*3->cs[j]? =(lM ds)[j]?):
 ∀j,j<(k+1)*3->(((cs.setIfInBounds (k*3) (.string d.k)).setIfInBounds (k*3+1) (.int .i64 d.a)).setIfInBounds (k*3+2) (.int .i64 d.b))[j]? =(lM ds)[j]? :=by
 intro j hj;obtain⟨g0,g1,g2⟩:=zu6 h;by_cases j2:j=k*3+2
 .subst j2;rw[Lx qR,g2]
 rw[jP aC];by_cases j1:j=k*3+1
 .subst j1;rw[Lx qR,g1]
 rw[jP aC];by_cases j0:j=k*3
 .subst j0;rw[Lx aC];exact g0.symm
 rw[jP aC];exact hc j aC
def b7.eventAt (h:b7 w lo hi 3 A n c (lM ds))(hk:k<n):
 ∃b off d,A=some ⟨b,off,none⟩/\lo<=b/\b<hi/\b<w.heap.size/\ds[k]? =some d/\w.cell? ⟨b,off+k*3,none⟩=some (.string d.k)/\w.cell? ⟨b,off+k*3+1,none⟩=some (.int .i64 d.a)/\w.cell? ⟨b,off+k*3+2,none⟩=some (.int .i64 d.b):=by
 obtain⟨b,off,e,h1,h2,h3,h4⟩:=h.cells hk;have hl:k<ds.length:=by have:=h.len;rw[zg5] at this;omega
 obtain⟨g0,g1,g2⟩:=zu6 (lV hl);exact⟨b,off,ds[k],e,h1,h2,h3,lV hl,h4 0 _ g0,h4 1 _ g1,h4 2 _ g2⟩
def b7.eventLen (h:b7 w lo hi 3 A n c (lM ds)):ds.length=n:=by
 have:=h.len;rw[zg5] at this;omega
def zIT (d:dG)(w:aE):
 fH aK 41 #[.agg #[.string d.k,.int .i64 d.a,.int .i64 d.b]] w λe w'=>e=.returned (.agg #[.string d.k,.int .i64 d.a,.int .i64 d.b])/\bU w.heap.size w w':=by
 go_enter Tryz.func41,Tryz.ntmps41
 go_wp2;refine bodyPost_ret (v:=.agg #[.string d.k,.int .i64 d.a,.int .i64 d.b]) (by simp[results,Tryz.results41,go_sem]) rfl ⟨rfl,?_⟩;exact dO (dO (dO (eG _ _) _) _) _
def zDB:(aK.info? 54).map (λi=>(i.zero,i.size,i.bytes))=some (some (.agg #[.string ⟨#[]⟩,.int .i64 0,.int .i64 0]),3,32):=aQ
def zHW (n:Nat)(hn:n<=1048576):∃cs:Array aF,cs.size=n*3/\∀w:aE,(zf2 31 (.int .i64 (n:Int)) (.int .i64 (n:Int))).run aK w=.ok (.slice (some ⟨w.heap.size,0,none⟩) n n) (w.alloc (.cells cs 54)):=by
 obtain⟨i,hi,hz,hs,hb⟩:=y3 zDB;refine⟨madeCells (Ux (.agg #[.string ⟨#[]⟩,.int .i64 0,.int .i64 0])) (n*3),size_madeCells _ _,λw=>?_⟩;have:=run_make (P:=aK) w 31 54 i _ Tryz.underlying31 hi hz .i64 .i64 n n aC (Int.le_refl _) (by rw[hb];omega) aC;rw[hs] at this;simpa using this
def zF4 (d e:dG)(w:aE):
 fH aK 43 #[.agg #[.string d.k,.int .i64 d.a,.int .i64 d.b],.agg #[.string e.k,.int .i64 e.a,.int .i64 e.b]] w λx w'=>x=.returned (.bool (d==e))/\bU w.heap.size w w':=by
 obtain⟨s,x,y⟩:=d;obtain⟨s',x',y'⟩:=e
 go_enter Tryz.func43,Tryz.ntmps43
 go_wp2
 all_goals go_ret
 all_goals refine⟨En ?_,dO (dO (eG _ _) _) _⟩
 all_goals first
  |(symm;rw[beq_eq_false_iff_ne];intro h;injection h with h1 h2 h3;subst h1 h2 h3;simp_all;done)
  |(symm;rw[beq_iff_eq];obtain rfl:s=s':=str_eq (by simp_all);simp_all;done)
def zz6 {W W':aE}{a0 a1 a2 b0 b1 b2:bL}{v0 v1 v2 u0 u1 u2:aF}(hb:bU W.heap.size W W')
 (h:W.cell? a0=some v0/\W.cell? a1=some v1/\W.cell? a2=some v2/\W.cell? b0=some u0/\W.cell? b1=some u1/\W.cell? b2=some u2/\bU w.heap.size w W):
 W'.cell? a0=some v0/\W'.cell? a1=some v1/\W'.cell? a2=some v2/\W'.cell? b0=some u0/\W'.cell? b1=some u1/\W'.cell? b2=some u2/\bU w.heap.size w W':=by
 have e:∀{a:bL} {v:aF},W.cell? a=some v->W'.cell? a=some v:=λ{a v} hv=>(Cw (hb.block _ (zpz W _ hv))).trans hv;exact⟨e h.1,e h.2.1,e h.2.2.1,e h.2.2.2.1,e h.2.2.2.2.1,e h.2.2.2.2.2.1,X5 h.2.2.2.2.2.2 hb⟩
def zzI {W:aE}{a0 a1 a2 b0 b1 b2:bL}{v0 v1 v2 u0 u1 u2:aF}
 (h:W.cell? a0=some v0/\W.cell? a1=some v1/\W.cell? a2=some v2/\W.cell? b0=some u0/\W.cell? b1=some u1/\W.cell? b2=some u2/\bU w.heap.size w W):
 W.drew.cell? a0=some v0/\W.drew.cell? a1=some v1/\W.drew.cell? a2=some v2/\W.drew.cell? b0=some u0/\W.drew.cell? b1=some u1/\W.drew.cell? b2=some u2/\bU w.heap.size w W.drew:=
 ⟨h.1,h.2.1,h.2.2.1,h.2.2.2.1,h.2.2.2.2.1,h.2.2.2.2.2.1,⟨h.2.2.2.2.2.2.os,h.2.2.2.2.2.2.tape,h.2.2.2.2.2.2.output,h.2.2.2.2.2.2.size,h.2.2.2.2.2.2.block⟩⟩
def zAB (lo hi n c x8 gT n' c':Nat)(A A':Option bL)(ds es:List dG)(w:aE)(h:b7 w lo hi 3 A n c (lM ds))(h':b7 w x8 gT 3 A' n' c' (lM es))(hn:n<=1048576)(sG:n'<=1048576):
 fH aK 16 #[.slice A n c,.slice A' n' c'] w λx w'=>x=.returned (.bool (ds==es))/\bU w.heap.size w w':=by
 have hl:=aD h.eventLen;have yC:=aD h'.eventLen;by_cases aT:n=n'
 .subst aT
  go_enter zx0,zp6
  go_wp2
  go_loopw [5] (λi wr=>∃k:Nat,k<=n/\i=.int .i64 k/\bU w.heap.size w wr/\∀j,j<k->ds[j]? =es[j]?) (λi _=>n-(intOf i).toNat)
  case atStart=>exact⟨0,jO _,rfl,eG _ _,λj hj=>absurd hj aC⟩
  case round=>
   obtain⟨k,hk,rfl,B,fV⟩:=hrel;have HC:=aD fV;clear fV;by_cases aN:k<n
   .obtain⟨b,off,d,hA,_,_,h3,eE,fI,oV,wV⟩:=(h.below B).eventAt aN
    obtain⟨b',Pp,e,zFL,_,_,zgY,B7,zf1,zuf,zv0⟩:=(h'.below B).eventAt aN;subst hA zFL;have HX:=aD eE;have zbp:=aD B7;have S0:=And.intro fI (And.intro oV (And.intro wV (And.intro zf1 (And.intro zuf (And.intro zv0 B)))));clear eE B7 h h' fI oV wV zf1 zuf zv0 h3 zgY B;have i0:(0:Int)<=(k:Int):=aC;have i1:(k:Int)<(n:Int):=aC;obtain⟨t,ht⟩:=aU ((d==e));have HT:=aD ht;clear ht
    go_wp2_with fail
    go_region_held3 (λW=>W.cell? ⟨b,off+k*3,none⟩=some (.string d.k)/\W.cell? ⟨b,off+k*3+1,none⟩=some (.int .i64 d.a)/\W.cell? ⟨b,off+k*3+2,none⟩=some (.int .i64 d.b)/\W.cell? ⟨b',Pp+k*3,none⟩=some (.string e.k)/\W.cell? ⟨b',Pp+k*3+1,none⟩=some (.int .i64 e.a)/\W.cell? ⟨b',Pp+k*3+2,none⟩=some (.int .i64 e.b)/\bU w.heap.size w W)
     (first|exact zzI S0|exact zz6 Wa Wa)
     (first|(go_at_call 43;refine(zF4 d e _).mono ?_;rintro x w2 ⟨rfl,b2⟩;rw[<-HT.o]))
    have S2:bU w.heap.size w w2:=by
     have S1:w2.cell? ⟨b,off+k*3,none⟩=some (.string d.k)/\w2.cell? ⟨b,off+k*3+1,none⟩=some (.int .i64 d.a)/\w2.cell? ⟨b,off+k*3+2,none⟩=some (.int .i64 d.b)/\w2.cell? ⟨b',Pp+k*3,none⟩=some (.string e.k)/\w2.cell? ⟨b',Pp+k*3+1,none⟩=some (.int .i64 e.a)/\w2.cell? ⟨b',Pp+k*3+2,none⟩=some (.int .i64 e.b)/\bU w.heap.size w w2:=by assumption
     exact S1.2.2.2.2.2.2
    clear S0;cases t
    .go_wp2
     go_ret;refine⟨En ?_,S2⟩;symm;rw[beq_eq_false_iff_ne];intro hh;subst hh;have:=HX.o.symm.trans zbp.o;injection this with this;subst this;simpa using HT.o
    .go_wp2
     go_roundw
     case rel=>exact⟨k+1,aC,nC,S2,λj hj=>by
      by_cases e:j=k
      .subst e;rw[HX.o,zbp.o,eq_of_beq HT.o.symm]
      .exact HC.o j aC⟩
     case measure=>simp[intOf];omega
   .have e:k=n:=aC
    subst e;clear h h';go_wp2;go_ret;exact⟨En (by
     symm;rw[beq_iff_eq];apply Ra;intro j;rcases mY j k with hj|hj
     .exact HC.o j hj
     .rw[Ca (by rw[hl.o];exact hj),Ca (by rw[yC.o];exact hj)]),B⟩
 .have hq:((n:Int) !=(n':Int))=true:=by rw[bne_iff_ne];omega
  clear h h';have HN:=aD aT;clear aT
  go_enter zx0,zp6
  go_wp2;go_ret;exact⟨En zsV,eG _ _⟩
def F9 (l:Int):List dG->Int
 |[]=>l
 |d::ds=>if l<d.k.size then-1 else F9 (l-d.k.size) ds
def Jg (l:Int)(n:Nat)(ds:List dG):Int:=if l<n then-1 else F9 (l-n) ds
def zE8 :∀{l:Int},0<=l->F9 l ds<=l:=by
 induction ds with
 |nil=>intro l h0;rw[F9];omega
 |cons d ds ih=>
  intro l h0;rw[F9];split
  .omega
  .have:=ih (l:=l-d.k.size) aC;omega
def zDv :∀{l:Int},0<=F9 l ds->l<=1048576->∀d∈ds,d.k.size<=1048576:=by
 induction ds with
 |nil=>intro l _ _ d hd;cases hd
 |cons q ds ih=>
  intro l h hl d hd;rw[F9] at h;split at h
  .omega
  .rcases jH.1 hd with e|hd
   .subst e;omega
   .exact ih h aC d hd
variable {l:Int}
def zFX (h:0<=Jg l n ds)(hl:l<=1048576):n<=1048576/\∀d∈ds,d.k.size<=1048576:=by
 unfold Jg at h;split at h
 .omega
 .exact⟨aC,zDv h aC⟩
def zIJ (h:0<=l):Jg l n ds<=l:=by
 unfold Jg;split
 .omega
 .have:=zE8 (ds:=ds) (l:=l-n) aC;omega
def zpG (d:dG)(l:Int)(w:aE)(h0:0<=l)(h1:l<=1048576)(hs:d.k.size<=maxLen):
 fH aK 39 #[.agg #[.string d.k,.int .i64 d.a,.int .i64 d.b],.int .i64 l] w λe w'=>e=.returned (.int .i64 (if l<d.k.size then-1 else l-d.k.size))/\bU w.heap.size w w':=by
 unfold maxLen at hs;by_cases hl:l<d.k.size
 .rw[if_pos hl]
  have hx:l-d.k.size<0:=aC
  go_enter zxQ,zvN
  go_wp2;go_ret;exact⟨rfl,dO (eG _ _) _⟩
 .rw[if_neg hl]
  have hx:0<=l-d.k.size:=aC
  go_enter zxQ,zvN
  go_wp2;go_ret;exact⟨rfl,dO (eG _ _) _⟩
def zI0 (lo hi n c:Nat)(A:Option bL)(ds:List dG)(l:Int)(w:aE)(h:b7 w lo hi 3 A n c (lM ds))(hd:∀d∈ds,d.k.size<=maxLen)(h0:0<=l)(h1:l<=1048576):
 fH aK 10 #[.slice A n c,.int .i64 l] w λe w'=>e=.returned (.int .i64 (Jg l n ds))/\bU w.heap.size w w':=by
 have qN:=h.le;have nM:=h.cap;unfold maxLen at nM;by_cases hl:l<n
 .have hx:l-n<0:=aC
  have H:=aD (if_pos hl:Jg l n ds= -1)
  go_enter zwk,zuF
  go_wp2;go_ret;exact⟨Ba H.o.symm,eG _ _⟩
 .have hx:0<=l-n:=aC
  have H:=aD (if_neg hl:Jg l n ds=F9 (l-n) ds);have HL:=aD h.eventLen;have HD:=aD hd
  go_enter zwk,zuF
  go_wp2
  go_loopw [1,5] (λq i wr=>∃(k:Nat) (m:Int),k<=n/\q=.int .i64 m/\i=.int .i64 k/\0<=m/\m<=1048576/\F9 m (ds.drop k)=F9 (l-n) ds/\bU w.heap.size w wr) (λ_ i _=>n-(intOf i).toNat)
  case atStart=>exact⟨0,l-n,jO _,rfl,rfl,aC,aC,aP,eG _ _⟩
  case round=>
   obtain⟨k,m,hk,rfl,rfl,m0,m1,hs,B⟩:=hrel;by_cases aN:k<n
   .obtain⟨b,off,d,rfl,_,_,h3,eE,fI,oV,wV⟩:=(h.below B).eventAt aN
    rw[zIS eE,F9] at hs;have uZ:=HD.o d (dX eE);by_cases hm:m<d.k.size
    .rw[if_pos hm] at hs
     have HS:=aD hs
     go_wp2_with fail
     refine(zpG d m _ m0 m1 uZ).mono ?_;rintro e w1 ⟨rfl,b1⟩;rw[if_pos hm];have B1:=X5 B b1;go_wp2;go_ret;exact⟨Ba (HS.o.trans H.o.symm),B1⟩
    .rw[if_neg hm] at hs
     have HS:=aD hs;have Mz:0<=m-d.k.size:=aC
     go_wp2_with fail
     refine(zpG d m _ m0 m1 uZ).mono ?_;rintro e w1 ⟨rfl,b1⟩;rw[if_neg aC];have B1:=X5 B b1;go_wp2;go_roundw
     case rel=>exact⟨k+1,m-d.k.size,aC,rfl,nC,aC,aC,HS.o,B1⟩
     case measure=>simp[intOf];omega
   .have e:k=n:=aC
    subst e;rw[List.drop_of_length_le (by rw[HL.o];exact aV _),F9] at hs;have HS:=aD hs;go_wp2;go_ret;exact⟨Ba (HS.o.trans H.o.symm),B⟩
def zD2 (lo hi n c:Nat)(A:Option bL)(xs:List aF)(k0:Nat)(w:aE)(h:qT 54 3 w lo hi A n c xs)(hn:n<=1048576)(iR:k0<=10000000):
 fH aK 17 #[.slice A n c,.int .i64 k0] w λe w'=>e=.returned (.int .i64 ((k0+3*n:Nat):Int))/\qC lo hi w w':=by
 by_cases zkz:n=0
 .subst zkz
  go_enter zvr,zrm
  go_wp2
  go_loopw [1,5] (λq i wr=>q=.int .i64 k0/\i=.int .i64 0/\wr=w) (λ_ _ _=>0)
  case atStart=>exact⟨rfl,rfl,rfl⟩
  case round=>
   obtain⟨rfl,rfl,rfl⟩:=hrel;go_wp2;go_ret;exact⟨rfl,qC.refl _ _ _⟩
 .obtain⟨b,x9,rfl,Hl,O1⟩:=h.blk aC
  obtain⟨b',Pp,he,dV,Ts,aN,_⟩:=h.slc.at_ aC;simp only[fY,ztJ,and_true] at he;obtain⟨rfl,rfl⟩:=he;have N8:=aD Hl;have zD7:=aD O1
  go_enter zvr,zrm
  go_wp2
  go_loopw [1,5] (λq i wr=>∃k:Nat,k<=n/\q=.int .i64 ((k0+3*k:Nat):Int)/\i=.int .i64 k/\qC lo hi w wr/\∃cs:Array aF,wr.heap[b]? =some (.cells cs 54)/\n*3<=cs.size) (λ_ i _=>n-(intOf i).toNat)
  case atStart=>exact⟨0,jO _,rfl,rfl,qC.refl _ _ _,x9,N8.o,zD7.o⟩
  case round=>
   obtain⟨k,hk,rfl,rfl,C,cs,hb,fV⟩:=hrel;by_cases zLc:k<n
   .have Yg:=aD fV
    have zj2:=gA hb
    go_wp2_with fail
    refine(zzp (k0+3*k) aC _).mono ?_;rintro e w1 ⟨rfl,b1⟩;obtain⟨uN,z1⟩:=eI b1 hb;have C1:=C.trans (qC.of_below b1);have e0:=aJ uN (k*3);have e1:=aJ uN (k*3+1);have e2:=aJ uN (k*3+2);have hf:=eK uN;rw[mD (by have:=Yg.o;omega)] at e0 e1 e2;have pU:=aD uN;obtain⟨q,hq⟩:=aU (k0+3*k);rw[<-hq];have zL7:q<=20000000:=aC;have HQ:=aD hq;go_wp2;go_roundw
    case rel=>exact⟨k+1,aC,by rw[show k0+3*(k+1)=q+3 by have:=HQ.o;omega];go_num,nC,((C1.setCell dV Ts _).setCell dV Ts _).setCell dV Ts _,_,nQ (nQ (nQ pU.o _) _) _,by simp;exact Yg.o⟩
    case measure=>simp[intOf];omega
   .have e:k=n:=aC
    subst e;go_wp2;go_ret;exact⟨rfl,C⟩
end Go.Proofs.YtfcjiloojkjaeaaGreatDoor
namespace Go.Proofs.YtfcjiloojkjaeaaGreatDoor
open Go.Joins Go.ChangeShapes Go.WideShapes Go.RowKit Go.Deep
section
variable {H:Type}{enc:aM×aF->H}{P:bR}{w:aE}{base:Nat}{held:Bool}
variable {A:Option bL}{p:List zuu}
def zI1 {α:Type}[Inhabited α](f:α->List aF)(Q:α->Prop){s:Nat}(hs:0<s)(hf:∀a,(f a).length=s){t e:aM}{len cap:Nat}{d:DataW H}(ht:P.underlying t=some (.slice e))(hc:P.cellsOf e=s)
 (Ck:∀(n:Nat) (cs:List aF) (x:DataW H×List zuu),DataW.trod enc P w base (λ_=>true) held n e cs=some x->cs.length=s->∃a,cs=f a/\Q a)
 (h:zyg enc P w base (λ_=>true) held t (.slice A len cap) d p):∃ds:List α,b7 w 0 w.heap.size s A len cap (ds.flatMap f)/\∀d∈ds,Q d:=by
 obtain⟨fuel,Ag⟩:=h;rcases open_slice ht Ag with⟨fV,_⟩|⟨a,len',Oz,m,n,D,Pl,fV,_,hl,hm,Mz,_,hx⟩
 .simp[Ux] at fV
  obtain⟨rfl,rfl,rfl⟩:=fV;exact⟨[],⟨aP,aV _,jO _,λh0=>absurd h0 aC⟩,λd hd=>by cases hd⟩
 .simp[Ux] at fV
  obtain⟨rfl,rfl,rfl⟩:=fV;simp at Mz;subst Mz;rw[hc] at hx
  obtain⟨V,hV⟩:=choose_lt (α:=α) (n:=len) (p:=λi v=>(∀j u,(f v)[j]? =some u->w.cell? ((a.add (i*s)).add j)=some u)/\Q v) (λi hi=>by
   obtain⟨Xz,h1,h2⟩:=hx i aC;obtain⟨_,hlen,zER⟩:=aE.cells?_some h1;obtain⟨v,rfl,hQ⟩:=Ck n Xz _ h2 hlen;refine⟨v,λj u hu=>?_,hQ⟩;have hj:j<s:=by rw[<-hf v];exact(jX.1 hu).1
   have:=zER j hj;rw[this,hu])
  refine⟨(gN len).map V,⟨by rw[Fe f hf];simp,hl,hm,λh0=>?_⟩,λd hd=>?_⟩
  rotate_left
  .obtain⟨i,hi,rfl⟩:=Jr.1 hd
   exact(hV i (List.mem_range.1 hi)).2
  obtain⟨b,off,spot⟩:=a;have hg:∀i,i<len->∀j u,(f (V i))[j]? =some u->w.cell? (((⟨b,off,spot⟩:bL).add (i*s)).add j)=some u:=λi hi=>(hV i hi).1;have zGD:spot=none:=by
   obtain⟨u,hu⟩:∃u,(f (V 0))[0]? =some u:=⟨_,lV (by rw[hf];exact hs)⟩;have h1:=hg 0 h0 0 u hu;rw[zbf] at h1;simpa[ze1] using aE.cell?_spot h1
  subst zGD;have hb:b<w.heap.size:=by
   obtain⟨u,hu⟩:∃u,(f (V 0))[0]? =some u:=⟨_,lV (by rw[hf];exact hs)⟩;have h1:=hg 0 h0 0 u hu;have:=zpz w _ h1;rw[add_plain,add_plain] at this;exact this
  refine⟨b,off,rfl,jO _,hb,hb,λj v hv=>?_⟩;obtain⟨i,k,rfl,hk⟩:∃i k,j=i*s+k/\k<s:=⟨j/s,j%s,by rw[Nat.mul_comm];exact(Nat.div_add_mod j s).symm,Nat.mod_lt _ hs⟩;rw[H4 f hf _ i k hk] at hv;obtain⟨x,Fs,Af⟩:=Option.bind_eq_some_iff.1 hv;rw[List.getElem?_map] at Fs;obtain⟨i',gT,rfl⟩:=Option.map_eq_some_iff.1 Fs;have Be:i<len:=by
   have:=(jX.1 gT).1;simpa using this
  have:i'=i:=by rw[List.getElem?_range Be] at gT;injection gT with gT;exact gT.symm
  subst this;have:=hg i' Be k v Af;rw[add_plain,add_plain] at this;rw[<-this,Zz]
def zB8 {t e:aM}{f0 f1 f2:Field}{len cap:Nat}{d:DataW H}(ht:P.underlying t=some (.slice e))(hc:P.cellsOf e=3)(he:P.underlying e=some (.struct #[f0,f1,f2]))
 (o0:f0.offset=0) (o1:f1.offset=1) (o2:f2.offset=2) (h0:P.underlying f0.type=some .string) (h1:P.underlying f1.type=some (.int .i64)) (h2:P.underlying f2.type=some (.int .i64)) (c0:P.cellsOf f0.type=1) (c1:P.cellsOf f1.type=1) (c2:P.cellsOf f2.type=1)
 (h:zyg enc P w base (λ_=>true) held t (.slice A len cap) d p):∃ds:List dG,b7 w 0 w.heap.size 3 A len cap (lM ds)/\∀d∈ds,d.k.size<=maxLen:=by
 letI:Inhabited dG:=⟨⟨⟨#[]⟩,0,0⟩⟩
 refine zI1 dG.cells (λd=>d.k.size<=maxLen) aH (λ_=>rfl) ht hc ?_ h;intro n cs x hx hl;obtain⟨xs,m,_,_,_,hlen,hg⟩:=DataW.trod_struct he hx
 match cs,hl with
 |[x0,x1,x2],_=>
  match xs,hlen with
  |[y0,y1,y2],_=>
   have g0:=hg 0 f0 rfl;have g1:=hg 1 f1 rfl;have g2:=hg 2 f2 rfl;rw[o0,c0] at g0;rw[o1,c1] at g1;rw[o2,c2] at g2;obtain⟨s,e0,_,hs⟩:=DataW.trod_string h0 g0;obtain⟨a,e1,_,_⟩:=Vr h1 g1;obtain⟨b,e2,_,_⟩:=Vr h2 g2;simp at e0 e1 e2;subst e0 e1 e2;exact⟨⟨s,a,b⟩,rfl,hs⟩
end
end Go.Proofs.YtfcjiloojkjaeaaGreatDoor
namespace Go.Proofs.YtfcjiloojkjaeaaGreatDoor
open Go.ChangeShapes Go.WideShapes Go.ChangeAt Go.RowKit
section
variable {P:bR}{w:aE}{base:Nat}
def zDR {t e:aM}{A:Option bL}{n c:Nat}{r:Reach}(ht:P.underlying t=some (.slice e))(h:zvO P w r base t (.slice A n c)):∀a,A=some a->a.spot=none/\∃cs T fz,w.heap[a.block]? =some (.cells cs T fz):=by
 intro a e;subst e;simp only[zvO,ht,Cell.okWide,Cell.ok,aE.has] at h;obtain⟨_,_,_,Jp,row,cells,lL,_⟩:=h;refine⟨Jp,?_⟩;unfold zci at lL;split at lL
 .rename_i cs T fz hb
  exact⟨cs,T,fz,hb⟩
 .cases lL
end
end Go.Proofs.YtfcjiloojkjaeaaGreatDoor
namespace Go.Proofs.YtfcjiloojkjaeaaGreatDoor
open Go.RowKit
def txt (l:List UInt8):Value:=.string ⟨l.toArray⟩
def Eh (ss:List (List UInt8)):List Value:=ss.map txt
def zFD (lo hi n c:Nat)(A:Option bL)(k0:Int)(w:aE)(h:b7 w lo hi 1 A n c (eH (Ny k0 n)))(hn:n<=1048576)(iR:0<=k0)(n9:k0<=100000000000):
 fH aK 24 #[.slice A n c,.int .i64 k0] w λe w'=>e=.returned (.int .i64 (k0+n))/\w'=w:=by
 go_enter Tryz.func24,Tryz.ntmps24
 go_wp2
 go_loop [1,5] (λq i=>∃k:Nat,k<=n/\q=.int .i64 (k0+k)/\i=.int .i64 k) (λ_ i=>n-(intOf i).toNat)
 case atStart=>exact⟨0,jO _,aP,rfl⟩
 case round=>
  obtain⟨k,hk,rfl,rfl⟩:=hrel;by_cases aN:k<n
  .obtain⟨b,off,v,rfl,_,_,h3,eE,hv⟩:=h.cellAt aN
   rw[zrQ aN] at eE;injection eE with eE;subst eE;clear h;go_wp2
   go_round
   case rel=>exact⟨k+1,aC,nC,nC⟩
   case measure=>simp[intOf];omega
  .have e:k=n:=aC
   subst e;clear h;go_wp2;go_ret;exact⟨rfl,rfl⟩
variable {w:aE}{lo hi n c:Nat}{A:Option bL}{ds:List bE}
def b7.callsLen (h:b7 w lo hi 2 A n c (bG ds)):ds.length=n:=by
 have h1:=h.len;have h2:=Fe bE.cells (s:=2) (λ_=>rfl) ds;unfold bG at h1;omega
variable {k:Nat}
def b7.callsAt (h:b7 w lo hi 2 A n c (bG ds))(hk:k<n):
 ∃b off d,A=some ⟨b,off,none⟩/\lo<=b/\b<hi/\b<w.heap.size/\ds[k]? =some d/\w.cell? ⟨b,off+k*2,none⟩=some (.int .i64 d.c)/\w.cell? ⟨b,off+k*2+1,none⟩=some (.int .i64 d.p):=by
 have hl:=h.callsLen;have hx:ds[k]? =some ds[k]:=lV aC;have g:∀i,i<2->(bG ds)[k*2+i]? =(ds[k].cells)[i]? :=λi hi=>by
  have:=H4 bE.cells (s:=2) (λ_=>rfl) ds k i hi;rw[hx] at this;exact this
 obtain⟨b,off,rfl,h1,h2,h3,h4⟩:=h.cells hk;exact⟨b,off,ds[k],rfl,h1,h2,h3,hx,h4 0 _ (g 0 aH),by rw[Zz];exact h4 1 _ (g 1 aH)⟩
variable {W0:aE}{a1 a2:bL}{v1 v2:aF}
def qW {W:aE}(h:W.cell? a1=some v1/\W.cell? a2=some v2/\bU W0.heap.size W0 W):bU W0.heap.size W0 W:=h.2.2
def zuC {W':aE}(z1:a1.block<W0.heap.size)(z2:a2.block<W0.heap.size)(h1:W0.cell? a1=some v1)(h2:W0.cell? a2=some v2)(hb:bU W0.heap.size W0 W'):W'.cell? a1=some v1/\W'.cell? a2=some v2/\bU W0.heap.size W0 W':=
 ⟨(Cw (hb.block _ z1)).trans h1,(Cw (hb.block _ z2)).trans h2,hb⟩
section
variable {P:bR}(w:aE)
def zA9 (t ty:aM)(base:Nat)(e:aM)(i:wY)(z:aF)(size bytes:Nat)(ht:P.underlying t=some (.slice e))(hi:P.info? e=some i)(hz:i.zero=some z)
 (wS:i.size=size) (uS:i.bytes=bytes) (hzs:z.cells.size=size) (cG:0<size)
 (g0 n c0:Nat) (xs:List aF) (cP:w.ownsRow base e size (.slice (some ⟨g0,0,none⟩) n c0) n xs)
 (A:Option bL) (m c lo gT:Nat) (news:List aF) (hs:b7 w lo gT size A m c news) (h1:∀u∈news,u.oneCell'=true)
 (xC:n+m<=maxLen) (xJ:(n+m)*bytes<=140737488355328) (rS:base<=w.heap.size):
 ∃g cap w',(wL #[t,t] ty #[.slice (some ⟨g0,0,none⟩) n c0,.slice A m c]).run P w=.ok (.slice (some ⟨g,0,none⟩) (n+m) cap) w'/\
  w'.ownsRow base e size (.slice (some ⟨g,0,none⟩) (n+m) cap) (n+m) (xs++news)/\w.grownBy w' (J1 (.slice (some ⟨g0,0,none⟩) n c0))/\bU base w w':=by
 cases A with
 |none=>
  have hm:m=0:=by
   rcases Nat.eq_zero_or_pos m with h|h
   .exact h
   .obtain⟨b,off,e,_⟩:=hs.at_ h;cases e
  subst hm;have oU:news=[]:=by have:=hs.len;simp at this;exact this
  subst oU;have hle:n<=c0:=by
   obtain⟨_,h|⟨b,cap,cur,e,h1,h2,h3,_⟩⟩:=cP
   .cases h.1
   .injection e with _ _ e;omega
  have hr:=run_append_room_src (P:=P) w t t ty e i ht hi g0 0 n c0 (.slice none 0 c) 0 [] (Src.ofNil (P:=P) (e':=e) w ht c) aC (by intro j hj;simp at hj) (by intro j hj;simp at hj);refine⟨g0,c0,w,by simpa[aE.setCells] using hr,by simpa using cP,⟨rfl,rfl,rfl,aV _,λ_ _ _=>rfl⟩,eG _ _⟩
 |some ad=>
  by_cases hm:0<m
  .obtain⟨b,off,e',_,_,_,h4⟩:=hs.at_ hm
   injection e' with e';subst e';exact zjh w t ty base e i z size bytes ht hi hz wS uS hzs cG _ n xs cP aP _ m c news hs.len (λj u hu=>by rw[bL.add_lit];exact h4 j u hu) h1 xC xJ rS
  .obtain rfl:m=0:=aC
   have oU:news=[]:=by have:=hs.len;simp at this;exact this
   subst oU;exact zjh w t ty base e i z size bytes ht hi hz wS uS hzs cG _ n xs cP aP _ 0 c [] aP (λj u hu=>by simp at hu) (λu hu=>by cases hu) xC xJ rS
variable {o:aZ}{a:Act}
def zEg {K:Act->aE->Prop}{Q:Exit->Act->aE->Prop}(s x:cN)(t:aM)
 (ho:o.op=.call {callee:=.builtin .append,args:=#[s,x],argTypes:=#[t,t]})
 (base:Nat) (e:aM) (i:wY) (z:aF) (size bytes:Nat) (ht:P.underlying t=some (.slice e)) (hi:P.info? e=some i) (hz:i.zero=some z)
 (wS:i.size=size) (uS:i.bytes=bytes) (hzs:z.cells.size=size) (cG:0<size)
 (g0 n c0:Nat) (xs:List aF) (zmD:a.eval s=.slice (some ⟨g0,0,none⟩) n c0) (cP:w.ownsRow base e size (.slice (some ⟨g0,0,none⟩) n c0) n xs)
 (A:Option bL) (m c lo gT:Nat) (news:List aF) (hx:a.eval x=.slice A m c) (hs:b7 w lo gT size A m c news) (h1:∀u∈news,u.oneCell'=true)
 (xC:n+m<=maxLen) (xJ:(n+m)*bytes<=140737488355328) (rS:base<=w.heap.size)
 (h:∀g cap w',w'.ownsRow base e size (.slice (some ⟨g,0,none⟩) (n+m) cap) (n+m) (xs++news)->w.grownBy w' (J1 (.slice (some ⟨g0,0,none⟩) n c0))->bU base w w'->K (a.put o.dst (.slice (some ⟨g,0,none⟩) (n+m) cap)) w'):o.wp P a w K Q:=by
 obtain⟨g,cap,w',hr,h2,h3,h4⟩:=zA9 (P:=P) w t o.type base e i z size bytes ht hi hz wS uS hzs cG g0 n c0 xs cP A m c lo gT news hs h1 xC xJ rS;unfold B8 execOp;simp only[ho,resolve,invoke,builtin,Et,Jd,Fa,uW,fL,tM,zmD,hx,hr];exact h g cap w' h2 h3 h4
def zdm {ops:Array aZ}{K:Act->aE->Prop}{Q:Exit->Act->aE->Prop}{EE:Prop}(hw:dD o (dR ops a.tmps)=true)(s x:cN)(t:aM)
 (ho:o.op=.call {callee:=.builtin .append,args:=#[s,x],argTypes:=#[t,t]})
 (base:Nat) (e:aM) (i:wY) (z:aF) (size bytes:Nat) (ht:P.underlying t=some (.slice e)) (hi:P.info? e=some i) (hz:i.zero=some z)
 (wS:i.size=size) (uS:i.bytes=bytes) (hzs:z.cells.size=size) (cG:0<size)
 (g0 n c0:Nat) (xs:List aF) (zmD:a.eval s=.slice (some ⟨g0,0,none⟩) n c0) (cP:w.ownsRow base e size (.slice (some ⟨g0,0,none⟩) n c0) n xs)
 (A:Option bL) (m c lo gT:Nat) (news:List aF) (hx:a.eval x=.slice A m c) (hs:b7 w lo gT size A m c news) (h1:∀u∈news,u.oneCell'=true)
 (xC:n+m<=maxLen) (xJ:(n+m)*bytes<=140737488355328) (rS:base<=w.heap.size)
 (h:∀g cap w',w'.ownsRow base e size (.slice (some ⟨g,0,none⟩) (n+m) cap) (n+m) (xs++news)->w.grownBy w' (J1 (.slice (some ⟨g0,0,none⟩) n c0))->bU base w w'->K (a.put o.dst (.slice (some ⟨g,0,none⟩) (n+m) cap)) w'):
 if dD o (dR ops a.tmps)=true then B8 P o a w K Q else EE:=by
 rw[if_pos hw];exact zEg w s x t ho base e i z size bytes ht hi hz wS uS hzs cG g0 n c0 xs zmD cP A m c lo gT news hx hs h1 xC xJ rS h
end
variable {α:Type}
def Z6 {p:α->Bool}:∀{l:List α} {k:Nat} {a:α},l[k]? =some a->p a=true->(∀j,j<k->∀b,l[j]? =some b->p b=false)->l.findIdx? p=some k
 |[],k,a,h,_,_=>by simp at h
 |x::xs,0,a,h,ha,_=>by
  simp at h;subst h;rw[zsM,if_pos ha]
 |x::xs,k+1,a,h,ha,hn=>by
  have hx:=hn 0 aC x rfl;rw[zsM,hx,Z6 (l:=xs) (k:=k) zeM ha (λj hj b hb=>hn (j+1) aC b zhn)];simp
def zhQ {p:α->Bool}{l:List α}(hn:∀j,j<k->∀b,l[j]? =some b->p b=false)(hk:l.length<=k):l.findIdx? p=none:=by
 rw[List.findIdx?_eq_none_iff];intro x hx;obtain⟨j,hj,e⟩:=L9.1 hx;exact hn j aC x (by rw[lV hj,e])
def zu2 {p:α->Bool}:∀{l:List α} {k:Nat} {a:α},l[k]? =some a->p a=true->(∀j,j<k->∀b,l[j]? =some b->p b=false)->l.find? p=some a
 |[],k,a,h,_,_=>by simp at h
 |x::xs,0,a,h,ha,_=>by
  simp at h;subst h;rw[znU,ha]
 |x::xs,k+1,a,h,ha,hn=>by
  have hx:=hn 0 aC x rfl;rw[znU,hx];exact zu2 (l:=xs) (k:=k) zeM ha (λj hj b hb=>hn (j+1) aC b zhn)
def zJy {p:α->Bool}{l:List α}(hn:∀j,j<k->∀b,l[j]? =some b->p b=false)(hk:l.length<=k):l.find? p=none:=by
 rw[List.find?_eq_none];intro x hx;obtain⟨j,hj,e⟩:=L9.1 hx;rw[hn j aC x (by rw[lV hj,e])];simp
def Sp {p:α->Bool}{l:List α}{a:α}(h:∀j,j<k->∀b,l[j]? =some b->p b=false)(hk:l[k]? =some a)(ha:p a=false):∀j,j<k+1->∀b,l[j]? =some b->p b=false:=by
 intro j hj b hb;by_cases e:j=k
 .subst e;rw[hk] at hb;injection hb with hb;exact hb▸ha
 .exact h j aC b hb
def Js (lo hi n c:Nat)(A:Option bL)(rs:List bS)(q:Int)(w:aE)(h:b7 w lo hi 7 A n c (recs rs))(hn:n<=1048576):
 fH aK 91 #[.slice A n c,.int .i64 q] w λe w'=>e=.returned (.int .i64 (G5 (jI rs q)))/\w'=w:=by
 have hl:=aD h.recLen
 go_enter Tryz.func91,Tryz.ntmps91
 go_wp2
 go_loop [5] (λi=>∃k:Nat,k<=n/\i=.int .i64 k/\∀j,j<k->∀b,rs[j]? =some b->As q b=false) (λi=>n-(intOf i).toNat)
 case atStart=>exact⟨0,jO _,rfl,λj hj=>absurd hj aC⟩
 case round=>
  obtain⟨k,hk,rfl,fV⟩:=hrel;have HC:=aD fV;by_cases aN:k<n
  .obtain⟨b,off,d,hA,_,_,h3,eE,fI,oV,wV,Lf,Li,nO,zgl⟩:=h.rec7 aN
   subst hA;have HX:=aD eE;have i0:(0:Int)<=(k:Int):=aC;have i1:(k:Int)<(n:Int):=aC;cases hq:(d.c==q)
   .have HP:=aD (show As q d=false by unfold As;rw[hq];rfl)
    go_wp2
    go_round
    case rel=>exact⟨k+1,aC,nC,Sp HC.o HX.o HP.o⟩
    case measure=>simp[intOf];omega
   .cases hd:(d.e.toList==[111,112,101,110])
    .have HP:=aD (show As q d=false by unfold As eL;rw[hq,hd];rfl)
     go_wp2
     go_round
     case rel=>exact⟨k+1,aC,nC,Sp HC.o HX.o HP.o⟩
     case measure=>simp[intOf];omega
    .have HP:=aD (show As q d=true by unfold As eL;rw[hq,hd];rfl)
     go_wp2;go_ret;exact⟨Ba (by unfold jI;rw[Z6 HX.o HP.o HC.o];rfl),rfl⟩
  .have e:k=n:=aC
   subst e;go_wp2;go_ret;exact⟨Ba (by unfold jI;rw[zhQ HC.o zck];rfl),rfl⟩
def Qu (lo hi n c:Nat)(A:Option bL)(rs:List bS)(q:Int)(w:aE)(h:b7 w lo hi 7 A n c (recs rs))(hn:n<=1048576):
 fH aK 45 #[.slice A n c,.int .i64 q] w λe w'=>e=.returned (.int .i64 (dK rs q))/\w'=w:=by
 have hl:=aD h.recLen
 go_enter Tryz.func45,Tryz.ntmps45
 go_wp2
 go_loop [5] (λi=>∃k:Nat,k<=n/\i=.int .i64 k/\∀j,j<k->∀b,rs[j]? =some b->vT q b=false) (λi=>n-(intOf i).toNat)
 case atStart=>exact⟨0,jO _,rfl,λj hj=>absurd hj aC⟩
 case round=>
  obtain⟨k,hk,rfl,fV⟩:=hrel;have HC:=aD fV;by_cases aN:k<n
  .obtain⟨b,off,d,hA,_,_,h3,eE,fI,oV,wV,Lf,Li,nO,zgl⟩:=h.rec7 aN
   subst hA;have HX:=aD eE;have i0:(0:Int)<=(k:Int):=aC;have i1:(k:Int)<(n:Int):=aC;cases hq:(d.o==q)
   .have HP:=aD (show vT q d=false by unfold vT;rw[hq];rfl)
    go_wp2
    go_round
    case rel=>exact⟨k+1,aC,nC,Sp HC.o HX.o HP.o⟩
    case measure=>simp[intOf];omega
   .cases hd:(d.e.toList==[111,112,101,110])
    .have HP:=aD (show vT q d=false by unfold vT eL;rw[hq,hd];rfl)
     go_wp2
     go_round
     case rel=>exact⟨k+1,aC,nC,Sp HC.o HX.o HP.o⟩
     case measure=>simp[intOf];omega
    .have HP:=aD (show vT q d=true by unfold vT eL;rw[hq,hd];rfl)
     go_wp2;go_ret;exact⟨Ba (by unfold dK;rw[zu2 HX.o HP.o HC.o]),rfl⟩
  .have e:k=n:=aC
   subst e;go_wp2;go_ret;exact⟨Ba (by unfold dK;rw[zJy HC.o zck]),rfl⟩
def zbr (lo hi n c:Nat)(A:Option bL)(xs:List bE)(q:Int)(w:aE)(h:b7 w lo hi 2 A n c (bG xs))(hn:n<=1048576):
 fH aK 92 #[.slice A n c,.int .i64 q] w λe w'=>e=.returned (.int .i64 (G5 (vP xs q)))/\w'=w:=by
 have hl:=aD h.callsLen
 go_enter Tryz.func92,Tryz.ntmps92
 go_wp2
 go_loop [5] (λi=>∃k:Nat,k<=n/\i=.int .i64 k/\∀j,j<k->∀b,xs[j]? =some b->(b.c==q)=false) (λi=>n-(intOf i).toNat)
 case atStart=>exact⟨0,jO _,rfl,λj hj=>absurd hj aC⟩
 case round=>
  obtain⟨k,hk,rfl,fV⟩:=hrel;have HC:=aD fV;by_cases aN:k<n
  .obtain⟨b,off,d,hA,_,_,h3,eE,fI,oV⟩:=h.callsAt aN
   subst hA;have HX:=aD eE;have i0:(0:Int)<=(k:Int):=aC;have i1:(k:Int)<(n:Int):=aC;cases hq:(d.c==q)
   .have HP:=aD hq
    go_wp2
    go_round
    case rel=>exact⟨k+1,aC,nC,Sp HC.o HX.o HP.o⟩
    case measure=>simp[intOf];omega
   .have HP:=aD hq
    go_wp2;go_ret;exact⟨Ba (by unfold vP;rw[Z6 HX.o HP.o HC.o];rfl),rfl⟩
  .have e:k=n:=aC
   subst e;go_wp2;go_ret;exact⟨Ba zvS,rfl⟩
def zk0 (E s:Nat)(w:aE)(m:Nat)(xs:List aF)(v:aF)(w':aE):Prop:=∃g cp,v=.slice (some ⟨g,0,none⟩) m cp/\w'.ownsRow w.heap.size E s (.slice (some ⟨g,0,none⟩) m cp) m xs/\bU w.heap.size w w'
def zwP (bs:List bE)(b:bE):bG (bs++[b])=bG bs++b.cells:=by simp[bG]
def zdI:(aK.info? 100).map (λi=>(i.zero,i.size,i.bytes))=some (some (.agg #[.int .i64 0,.int .i64 0]),2,16):=aQ
def zzW {xs:List bE}{d:bE}(q:Int)(h:xs[k]? =some d):dY (xs.take (k+1)) q=dY (xs.take k) q++(if d.c !=q then[d] else[]):=by
 unfold dY;rw[N3,h,Qk];congr 1;simp[zq7]
def zf0 (lo hi n c:Nat)(A:Option bL)(xs:List bE)(q:Int)(w:aE)(h:b7 w lo hi 2 A n c (bG xs))(hn:n<=100000):
 fH aK 95 #[.slice A n c,.int .i64 q] w λe w'=>∃v,e=.returned v/\zk0 100 2 w (dY xs q).length (bG (dY xs q)) v w':=by
 have hl:=aD h.callsLen;obtain⟨i0,eY,gX,dZ,jW⟩:=y3 zdI;have HI:=aD (And.intro eY (And.intro gX (And.intro dZ jW)));clear eY gX dZ jW
 go_enter Tryz.func95,Tryz.ntmps95
 go_wp2
 go_loopw [5,6] (λv i wr=>∃(k g L cl:Nat),k<=n/\i=.int .i64 k/\L=(dY (xs.take k) q).length/\v=.slice (some ⟨g,0,none⟩) L cl/\bU w.heap.size w wr/\wr.ownsRow w.heap.size 100 2 (.slice (some ⟨g,0,none⟩) L cl) L (bG (dY (xs.take k) q))) (λ_ i _=>n-(intOf i).toNat)
 case atStart=>exact⟨0,w.heap.size,0,0,jO _,rfl,rfl,rfl,dO (eG _ _) _,M9 (aV _) (lP _ _)⟩
 case round=>
  obtain⟨k,g,L,cl,hk,rfl,hL,rfl,B,cP⟩:=hrel;have HL:=aD hL;have Ko:=aD cP;have HB:=aD B;have zj2:=B.size;have hlen:L<=k:=by rw[hL];unfold dY;exact eM (zaE _ _) qR
  clear hL cP;by_cases aN:k<n
  .obtain⟨b,off,d,hA,_,_,h3,eE,fI,oV⟩:=(h.below B).callsAt aN
   subst hA;have HF:=aD (zzW q eE);clear eE h h3 B;have zoy:(0:Int)<=(k:Int):=aC;have i1:(k:Int)<(n:Int):=aC;cases hq:(d.c !=q)
   .rw[hq] at HF
    have HN:=aD (show dY (xs.take (k+1)) q=dY (xs.take k) q by rw[HF.o];simp);go_wp2;go_roundw
    case rel=>exact⟨k+1,g,L,cl,aC,nC,by rw[HN.o];exact HL.o,rfl,HB.o,by rw[HN.o];exact Ko.o⟩
    case measure=>simp[intOf];omega
   .rw[hq] at HF
    have HN:=aD (show dY (xs.take (k+1)) q=dY (xs.take k) q++[d] by rw[HF.o];simp);obtain⟨eY,gX,dZ,jW⟩:=HI.o;have HH:=aD eY;clear eY
    go_wp2_with (at_builtin;refine zjc _ rfl (.tmp 21) (.tmp 26) 57 rfl w.heap.size 100 i0 (.agg #[.int .i64 0,.int .i64 0]) 2 16 K9 HH.o gX dZ jW rfl aH (.slice (some ⟨g,0,none⟩) L cl) L (bG (dY (xs.take k) q)) rfl (zX Ko.o ?c1) aP ⟨_,0,none⟩ 1 1 (bE.cells d) rfl rfl ?c2 Sb ?c5 ?c6 ?c7 ?_;(case c1=>exact λb hb=>rA _ _ b hb);(case c2=>exact E7 (cs:=(bE.cells d).toArray) (mI _ _ aP));(case c5=>unfold maxLen;omega);(case c6=>omega);(case c7=>(simp;omega));intro g1 c1 w1 qE qM B1;have z8:=aD qE;have pU:=aD B1;clear qE qM B1)
    go_roundw
    case rel=>
     refine⟨k+1,g1,L+1,c1,aC,nC,by rw[HN.o,HL.o];simp,rfl,(dO HB.o _).trans pU.o,?_⟩;rw[HN.o,zwP];exact z8.o
    case measure=>simp[intOf];omega
  .have e:k=n:=aC
   subst e;have HT:=aD (show xs.take k=xs by rw[zZ zck]);clear h B;go_wp2;go_ret;refine⟨_,rfl,g,cl,by rw[HL.o,HT.o];rfl,?_,HB.o⟩;have:=Ko.o;rw[HL.o,HT.o] at this;exact this
section
variable {P:bR}(w:aE)
def zdJ (t ty:aM)(base:Nat)(e:aM)(i:wY)(z:aF)(size bytes:Nat)(ht:P.underlying t=some (.slice e))(hi:P.info? e=some i)(hz:i.zero=some z)
 (wS:i.size=size) (uS:i.bytes=bytes) (hzs:z.cells.size=size) (cG:0<size)
 (gv cv n:Nat) (xs:List aF) (cP:w.ownsRow base e size (.slice (some ⟨gv,0,none⟩) n cv) n xs)
 (ad:bL) (m c:Nat) (news:List aF) (hl:news.length=m*size) (Ex:∀j u,news[j]? =some u->w.cell? (ad.add j)=some u) (h1:∀u∈news,u.oneCell'=true)
 (xC:n+m<=maxLen) (xJ:(n+m)*bytes<=140737488355328) (rS:base<=w.heap.size):
 ∃g cap w',(wL #[t,t] ty #[.slice (some ⟨gv,0,none⟩) n cv,.slice (some ad) m c]).run P w=.ok (.slice (some ⟨g,0,none⟩) (n+m) cap) w'/\
  w'.ownsRow base e size (.slice (some ⟨g,0,none⟩) (n+m) cap) (n+m) (xs++news)/\w.grownBy w' (some gv)/\bU base w w'/\(g=gv\/g=w.heap.size):=by
 obtain⟨v',w',hr,h2,h3,h4,h5⟩:=zwj (P:=P) w base t ty e i z size bytes ht hi hz wS uS hzs cG _ n xs cP ad m c news hl Ex h1 xC xJ rS;obtain⟨g,cap,rfl⟩:=znw h2 (λh=>by have:=(h4.1 h).1;cases this);refine⟨g,cap,w',hr,h2,h3,ztF cP h3 rS,?_⟩;rcases h5 with h5|h5
 .exact .inl (by simpa[J1] using h5)
 .exact .inr (by simpa[J1] using h5)
variable {o:aZ}{a:Act}
def zId {K:Act->aE->Prop}{Q:Exit->Act->aE->Prop}(s x:cN)(t:aM)
 (ho:o.op=.call {callee:=.builtin .append,args:=#[s,x],argTypes:=#[t,t]})
 (base:Nat) (e:aM) (i:wY) (z:aF) (size bytes:Nat) (ht:P.underlying t=some (.slice e)) (hi:P.info? e=some i) (hz:i.zero=some z)
 (wS:i.size=size) (uS:i.bytes=bytes) (hzs:z.cells.size=size) (cG:0<size)
 (gv cv n:Nat) (xs:List aF) (hs:a.eval s=.slice (some ⟨gv,0,none⟩) n cv) (cP:w.ownsRow base e size (.slice (some ⟨gv,0,none⟩) n cv) n xs)
 (ad:bL) (m c:Nat) (news:List aF) (hx:a.eval x=.slice (some ad) m c) (hl:news.length=m*size) (Ex:∀j u,news[j]? =some u->w.cell? (ad.add j)=some u) (h1:∀u∈news,u.oneCell'=true)
 (xC:n+m<=maxLen) (xJ:(n+m)*bytes<=140737488355328) (rS:base<=w.heap.size)
 (h:∀g cap w',w'.ownsRow base e size (.slice (some ⟨g,0,none⟩) (n+m) cap) (n+m) (xs++news)->w.grownBy w' (some gv)->bU base w w'->(g=gv\/g=w.heap.size)->K (a.put o.dst (.slice (some ⟨g,0,none⟩) (n+m) cap)) w'):o.wp P a w K Q:=by
 obtain⟨g,cap,w',hr,h2,h3,h4,h5⟩:=zdJ (P:=P) w t o.type base e i z size bytes ht hi hz wS uS hzs cG gv cv n xs cP ad m c news hl Ex h1 xC xJ rS;unfold B8 execOp;simp only[ho,resolve,invoke,builtin,Et,Jd,Fa,uW,fL,tM,hs,hx,hr];exact h g cap w' h2 h3 h4 h5
def zlK {ops:Array aZ}{rest:List aZ}{Q:Exit->Act->aE->Prop}(Fp:o.guard=none)(s x:cN)(t:aM)
 (ho:o.op=.call {callee:=.builtin .append,args:=#[s,x],argTypes:=#[t,t]})
 (base:Nat) (e:aM) (i:wY) (z:aF) (size bytes:Nat) (ht:P.underlying t=some (.slice e)) (hi:P.info? e=some i) (hz:i.zero=some z)
 (wS:i.size=size) (uS:i.bytes=bytes) (hzs:z.cells.size=size) (cG:0<size)
 (gv cv n:Nat) (xs:List aF) (hs:a.eval s=.slice (some ⟨gv,0,none⟩) n cv) (cP:w.ownsRow base e size (.slice (some ⟨gv,0,none⟩) n cv) n xs)
 (ad:bL) (m c:Nat) (news:List aF) (hx:a.eval x=.slice (some ad) m c) (hl:news.length=m*size) (Ex:∀j u,news[j]? =some u->w.cell? (ad.add j)=some u) (h1:∀u∈news,u.oneCell'=true)
 (xC:n+m<=maxLen) (xJ:(n+m)*bytes<=140737488355328) (rS:base<=w.heap.size)
 (h:∀g cap w',w'.ownsRow base e size (.slice (some ⟨g,0,none⟩) (n+m) cap) (n+m) (xs++news)->w.grownBy w' (some gv)->bU base w w'->(g=gv\/g=w.heap.size)->wpList P ops Q rest (a.put o.dst (.slice (some ⟨g,0,none⟩) (n+m) cap)) w'):wpList P ops Q (o::rest) a w:=
 wpList_plain Fp λ_ hK=>zId w s x t ho base e i z size bytes ht hi hz wS uS hzs cG gv cv n xs hs cP ad m c news hx hl Ex h1 xC xJ rS λg cap w' h2 h3 h4 h5=>hK _ _ (h g cap w' h2 h3 h4 h5)
end
structure fM where
 gR:Nat
 cR:Nat
 gW:Nat
 cW:Nat
 gB:Nat
 cB:Nat
 gL:Nat
 cL:Nat
abbrev fM.sR (v:fM)(r:b6):Value:=.slice (some ⟨v.gR,0,none⟩) r.recs.length v.cR
abbrev fM.sW (v:fM)(r:b6):Value:=.slice (some ⟨v.gW,0,none⟩) r.wait.length v.cW
abbrev fM.sB (v:fM)(r:b6):Value:=.slice (some ⟨v.gB,0,none⟩) r.back.length v.cB
abbrev fM.sL (v:fM)(r:b6):Value:=.slice (some ⟨v.gL,0,none⟩) r.log.length v.cL
abbrev fU (v:fM)(r:b6):Array Value:=#[.int .i64 r.o.ln,.int .i64 r.o.op,.int .i64 r.o.pt,.int .i64 r.clk,v.sR r,v.sW r,v.sB r,v.sL r]
abbrev Gy (v:fM)(r:b6):Obj:=.cells (fU v r) 59
structure eA (w:aE)(lo:Nat)(v:fM)(r:b6):Prop where
 rc:w.ownsRow lo 50 7 (v.sR r) r.recs.length (recs r.recs)
 wt:w.ownsRow lo 100 2 (v.sW r) r.wait.length (bG r.wait)
 bk:w.ownsRow lo 100 2 (v.sB r) r.back.length (bG r.back)
 lg:w.ownsRow lo 9 1 (v.sL r) r.log.length (Eh r.log)
 ap:v.gR≠v.gW/\v.gR≠v.gB/\v.gR≠v.gL/\v.gW≠v.gB/\v.gW≠v.gL/\v.gB≠v.gL
structure oG (v:fM)(w w':aE):Prop where
 os:w'.os=w.os
 tape:w'.tape=w.tape
 output:w'.output=w.output
 size:w.heap.size<=w'.heap.size
 block:∀b,b<w.heap.size->b≠v.gR->b≠v.gB->w'.heap[b]? =w.heap[b]?
structure xH (n:Nat)(v v':fM):Prop where
 r:v'.gR=v.gR\/n<=v'.gR
 w:v'.gW=v.gW\/n<=v'.gW
 b:v'.gB=v.gB\/n<=v'.gB
 l:v'.gL=v.gL
section
variable {w w' Dy:aE}{lo:Nat}{v v' zb6:fM}{r:b6}
def oG.of_below (v:fM)(h:bU w.heap.size w w'):oG v w w':=⟨h.os,h.tape,h.output,h.size,λb hb _ _=>h.block b hb⟩
def oG.trans {n:Nat}(h:oG v w w')(k:oG v' w' Dy)(m:xH n v v')(hn:w.heap.size<=n):oG v w Dy:=
 ⟨k.os.trans h.os,k.tape.trans h.tape,k.output.trans h.output,eM h.size k.size,λb hb h1 h2=>(k.block b (lE hb h.size) (λe=>by rcases m.r with x|x<;>omega) (λe=>by rcases m.b with x|x<;>omega)).trans (h.block b hb h1 h2)⟩
def oG.same (h:oG v w w')(k:oG v w' Dy):oG v w Dy:=
 ⟨k.os.trans h.os,k.tape.trans h.tape,k.output.trans h.output,eM h.size k.size,λb hb h1 h2=>(k.block b (lE hb h.size) h1 h2).trans (h.block b hb h1 h2)⟩
def xH.refl (n:Nat)(v:fM):xH n v v:=⟨.inl rfl,.inl rfl,.inl rfl,rfl⟩
def xH.trans {n m:Nat}(h:xH n v v')(k:xH m v' zb6)(hm:n<=m):xH n v zb6:=
 ⟨
  k.r.elim (λe=>h.r.imp (λx=>e.trans x) (λx=>by omega)) (λx=>.inr aC),k.w.elim (λe=>h.w.imp (λx=>e.trans x) (λx=>by omega)) (λx=>.inr aC),
  k.b.elim (λe=>h.b.imp (λx=>e.trans x) (λx=>by omega)) (λx=>.inr aC),k.l.trans h.l⟩
def eA.keep (h:eA w lo v r)(k:∀b,b<w.heap.size->w'.heap[b]? =w.heap[b]?):eA w' lo v r:=⟨zX h.rc k,zX h.wt k,zX h.bk k,zX h.lg k,h.ap⟩
def eA.below (h:eA w lo v r)(k:bU w.heap.size w w'):eA w' lo v r:=h.keep λb hb=>k.block b hb
def eA.alloc (h:eA w lo v r)(o:tT):eA (w.alloc o) lo v r:=h.keep λb hb=>rA w o b hb
def eA.lts (h:eA w lo v r):lo<=v.gR/\v.gR<w.heap.size/\lo<=v.gW/\v.gW<w.heap.size/\lo<=v.gB/\v.gB<w.heap.size/\lo<=v.gL/\v.gL<w.heap.size:=
 ⟨(h.rc.lt _ rfl).1,(h.rc.lt _ rfl).2,(h.wt.lt _ rfl).1,(h.wt.lt _ rfl).2,(h.bk.lt _ rfl).1,(h.bk.lt _ rfl).2,(h.lg.lt _ rfl).1,(h.lg.lt _ rfl).2⟩
def eA.slcR (h:eA w lo v r):b7 w lo w.heap.size 7 (some ⟨v.gR,0,none⟩) r.recs.length v.cR (recs r.recs):=y9 h.rc aH
def eA.slcW (h:eA w lo v r):b7 w lo w.heap.size 2 (some ⟨v.gW,0,none⟩) r.wait.length v.cW (bG r.wait):=y9 h.wt aH
def eA.slcB (h:eA w lo v r):b7 w lo w.heap.size 2 (some ⟨v.gB,0,none⟩) r.back.length v.cB (bG r.back):=y9 h.bk aH
def eA.clock (h:eA w lo v r)(k:Int):eA w lo v {r with clk:=k}:=⟨h.rc,h.wt,h.bk,h.lg,h.ap⟩
variable {xs:List bE}
def eA.newW {m g c:Nat}(h:eA w lo v r)(hk:∀b,b<w.heap.size->w'.heap[b]? =w.heap[b]?)(ho:w'.ownsRow lo 100 2 (.slice (some ⟨g,0,none⟩) m c) m (bG xs))(hm:m=xs.length)(hg:w.heap.size<=g):
 eA w' lo {v with gW:=g,cW:=c} {r with wait:=xs}:=by
 have l:=h.lts;have k:=h.keep hk;subst hm;exact⟨k.rc,ho,k.bk,k.lg,by have:=h.ap;simp only;omega⟩
def eA.newB {m g c:Nat}(h:eA w lo v r)(hk:∀b,b<w.heap.size->w'.heap[b]? =w.heap[b]?)(ho:w'.ownsRow lo 100 2 (.slice (some ⟨g,0,none⟩) m c) m (bG xs))(hm:m=xs.length)(hg:w.heap.size<=g):
 eA w' lo {v with gB:=g,cB:=c} {r with back:=xs}:=by
 have l:=h.lts;have k:=h.keep hk;subst hm;exact⟨k.rc,k.wt,ho,k.lg,by have:=h.ap;simp only;omega⟩
def eA.appB {m g c:Nat}{x:bE}(h:eA w lo v r)(hg:w.grownBy w' (some v.gB))(ho:w'.ownsRow lo 100 2 (.slice (some ⟨g,0,none⟩) m c) m (bG r.back++x.cells))(hm:m=r.back.length+1)(hw:g=v.gB\/w.heap.size<=g):
 eA w' lo {v with gB:=g,cB:=c} {r with back:=r.back++[x]}:=by
 have l:=h.lts;have a:=h.ap;subst hm;refine⟨h.rc.kept hg (.inr Gv),h.wt.kept hg (.inr Gv),?_,h.lg.kept hg (.inr Gv),by simp only;omega⟩;have e:bG (r.back++[x])=bG r.back++x.cells:=zwP _ _;simp only[fM.sB,gM,pX,r8];rw[e];exact ho
def eA.appR {m g c:Nat}{x:bS}(h:eA w lo v r)(hg:w.grownBy w' (some v.gR))(ho:w'.ownsRow lo 50 7 (.slice (some ⟨g,0,none⟩) m c) m (recs r.recs++x.cells))(hm:m=r.recs.length+1)(hw:g=v.gR\/w.heap.size<=g):
 eA w' lo {v with gR:=g,cR:=c} {r with recs:=r.recs++[x]}:=by
 have l:=h.lts;have a:=h.ap;subst hm;refine⟨?_,h.wt.kept hg (.inr Gv),h.bk.kept hg (.inr Gv),h.lg.kept hg (.inr Gv),by simp only;omega⟩;have e:recs (r.recs++[x])=recs r.recs++x.cells:=by simp[recs]
 simp only[fM.sR,gM,pX,r8];rw[e];exact ho
def eA.appL {m g c:Nat}{x:List UInt8}(h:eA w lo v r)(hg:w.grownBy w' (some v.gL))(ho:w'.ownsRow lo 9 1 (.slice (some ⟨g,0,none⟩) m c) m (Eh r.log++[.string ⟨x.toArray⟩]))(hm:m=r.log.length+1)(hw:g=v.gL\/w.heap.size<=g):
 eA w' lo {v with gL:=g,cL:=c} {r with log:=r.log++[x]}:=by
 have l:=h.lts;have a:=h.ap;subst hm;refine⟨h.rc.kept hg (.inr Gv),h.wt.kept hg (.inr Gv),h.bk.kept hg (.inr Gv),?_,by simp only;omega⟩;have e:Eh (r.log++[x])=Eh r.log++[.string ⟨x.toArray⟩]:=by simp[Eh,txt]
 simp only[fM.sL,gM,pX,r8];rw[e];exact ho
end
variable {d:bS}{rs:List bS}{i:Nat}{v:aF}
def zsr {j:Nat}{f:bS->bS}(hd:rs[i]? =some d)(hj:j<7)(hs:∀k,k<7->k≠j->(f d).cells[k]? =d.cells[k]?)(hv:(f d).cells[j]? =some v):(recs rs).set (i*7+j) v=recs (rs.modify i f):=by
 apply Ra;intro q;obtain⟨a,b,rfl,hb⟩:∃a b,q=a*7+b/\b<7:=⟨q/7,q%7,aC,aC⟩;have g:∀(l:List bS),(recs l)[a*7+b]? =(l[a]?).bind λx=>x.cells[b]? :=λl=>H4 bS.cells (s:=7) (λ_=>rfl) l a b hb;rw[List.getElem?_set,g,g,zS];have hlen:=zqX rs;have hi:=(jX.1 hd).1;by_cases e:i*7+j=a*7+b
 .have e1:i=a:=aC
  have e2:j=b:=aC;subst e1 e2;rw[if_pos e,if_pos aC,hd];simp[hv]
 .rw[if_neg e]
  by_cases e1:i=a
  .subst e1
   rw[hd];have:=hs b hb aC;simp[this]
  .simp[e1]
def zBG (l:Int)(h:rs[k]? =some d):q8 (rs.take (k+1)) l=(q8 (rs.take k) l||(d.l==l&&eL d)):=by
 unfold q8;rw[N3,h];simp[List.any_append]
def zIE (rs:List bS)(n:Nat):xU rs (n+1)=xU rs n++(if q8 rs ((n:Int)+1) then[] else[(n:Int)+1]):=by
 unfold xU;rw[List.range_succ,List.map_append,Qk];congr 1;simp only[fL,tM,zq7,List.filter_nil];cases q8 rs ((n:Int)+1)<;>simp
def zjk (rs:List bS)(n:Nat):(xU rs n).length<=n:=by
 unfold xU;exact eM (zaE _ _) aP
def zDT (xs:List Int)(x:Int):eH (xs++[x])=eH xs++[.int .i64 x]:=by simp[eH]
def zFN:(aK.info? 3).map (λi=>(i.zero,i.size,i.bytes))=some (some (.int .i64 0),1,8):=aQ
def Cd {o:jN}(h:sE o=true):1<=o.ln/\o.ln<=6/\1<=o.op/\o.op<=4/\1<=o.pt/\o.pt<=60:=of_decide_eq_true h
def zx2 (lo:Nat)(v:fM)(r:b6)(w:aE)(h:eA w lo v r)(hn:r.recs.length<=100000)(ho:sE r.o=true):
 fH aK 90 #[.agg (fU v r)] w λe w'=>∃x,e=.returned x/\zk0 3 1 w (oE r.o r.recs).length (eH (oE r.o r.recs)) x w':=by
 obtain⟨i0,eY,gX,dZ,jW⟩:=y3 zFN;have HI:=aD (And.intro eY (And.intro gX (And.intro dZ jW)));clear eY gX dZ jW;obtain⟨l0,l1,-,-,-,-⟩:=Cd ho;have hs:=h.slcR;obtain⟨n,Cq⟩:=aU r.recs.length;have zNb:n<=100000:=aC;have HN:=aD Cq;obtain⟨rs,zec⟩:=aU r.recs;have zM2:=aD zec;obtain⟨gb,eV⟩:=aU w.heap.size;have fS:=aD eV;obtain⟨ln,yX⟩:=aU r.o.ln;have zuz:=aD yX;obtain⟨m,hm⟩:=aU (ln.toNat:Nat);have V3:ln=(m:Int):=aC;obtain⟨O,hO⟩:=aU (.cells (fU v r) 59:tT);have iR:(w.alloc O).heap[gb]? =some (Gy v r):=by rw[hO,eV];exact lP _ _
 have B0:bU w.heap.size w (w.alloc O):=dO (eG _ _) O;have hz:(w.alloc O).heap.size=gb+1:=by rw[eV];simp
 have hF:oE r.o r.recs=xU rs m:=by unfold oE;rw[<-yX,<-zec,<-hm]
 have HF:=aD hF;have O1:=aJ iR 0;rw[<-Cq,<-zec] at hs;have zzM:=aD iR;have N8:=aD B0;have HZ:=aD hz;rw[<-yX] at l0 l1;clear hF Cq zec eV yX hm h O1;have HO:=aD hO;have zAz:=aD V3;rw[V3] at l0 l1;clear hO iR B0 hz
 go_enter Tryz.func90,Tryz.ntmps90
 go_wp2_with fail
 rw[<-HO.o]
 go_loopw [3,4] (λx i wr=>∃(k g L cl:Nat),k<=m/\i=.int .i64 ((k:Int)+1)/\L=(xU rs k).length/\x=.slice (some ⟨g,0,none⟩) L cl/\bU (gb+1) (w.alloc O) wr/\wr.ownsRow (gb+1) 3 1 (.slice (some ⟨g,0,none⟩) L cl) L (eH (xU rs k))) (λ_ i _=>1000-(intOf i).toNat)
 case atStart=>
  have hz:=HZ.o;refine⟨0,gb+1,0,0,jO _,aP,rfl,by rw[fS.o],?_,M9 (aV _) (mI _ _ hz.symm)⟩;rw[<-hz];exact dO (eG _ _) _
 case round=>
  obtain⟨k,g,L,cl,hk,rfl,hL,rfl,B,cP⟩:=hrel;have HL:=aD hL;have Ko:=aD cP;have HB:=aD B;have zj2:=B.size;have hz:=HZ.o;have qP:=(B.block gb aC).trans zzM.o;have e0:=aJ qP 0;have e4:=aJ qP 4;have hlen:=zjk rs k;rw[<-hL] at hlen;have F6:=hs.below (N8.o.trans (B.mono (by have:=fS.o;omega)));have zdV:wr.cell? ⟨w.heap.size,0,none⟩=some (.int .i64 (m:Int)):=by rw[<-fS.o,e0,<-zAz.o,zuz.o];rfl
  have zMA:wr.cell? ⟨w.heap.size,4,none⟩=some (.slice (some ⟨v.gR,0,none⟩) n v.cR):=by rw[<-fS.o,e4,HN.o];rfl
  have zdZ:=aD (zIE rs k);have zHf:=aD F6.recLen;clear hL cP e0 e4 qP B hz hs;by_cases aN:k<m
  .obtain⟨l,hl⟩:=aU ((k:Int)+1:Int)
   have zMT:1<=l:=aC;have zol:l<=(m:Int):=aC;rw[<-hl] at zdZ⊢;have zgg:=aD hl;clear hl
   go_wp2_with fail
   go_loop [5,6] (λu i=>∃j:Nat,j<=n/\u=.bool (q8 (rs.take j) l)/\i=.int .i64 j) (λ_ i=>n-(intOf i).toNat)
   case atStart=>exact⟨0,jO _,rfl,rfl⟩
   case round=>
    obtain⟨j,hj,rfl,rfl⟩:=hrel;by_cases zHh:j<n
    .obtain⟨b,off,d,hA,_,_,h3,eE,fI,oV,wV,Lf,Li,nO,zgl⟩:=F6.rec7 zHh
     have HU:=aD (zBG l eE);have i0:(0:Int)<=(j:Int):=aC;have i1:(j:Int)<(n:Int):=aC;injection hA with hA;injection hA with y8 y4;subst y8 y4;simp only[qX] at oV zgl;clear eE F6 fI wV Lf Li nO h3;cases hu:q8 (rs.take j) l
     .rw[hu] at HU
      cases hq:(d.l==l)
      .have Ea:=aD (show q8 (rs.take (j+1)) l=false by rw[HU.o,hq];rfl)
       go_wp2
       go_round
       case rel=>exact⟨j+1,aC,by rw[Ea.o],nC⟩
       case measure=>simp[intOf];omega
      .cases hd:(d.e.toList==[111,112,101,110])
       .have Ea:=aD (show q8 (rs.take (j+1)) l=false by rw[HU.o,hq];unfold eL;rw[hd];rfl)
        go_wp2
        go_round
        case rel=>exact⟨j+1,aC,by rw[Ea.o],nC⟩
        case measure=>simp[intOf];omega
       .have Ea:=aD (show q8 (rs.take (j+1)) l=true by rw[HU.o,hq];unfold eL;rw[hd];rfl)
        go_wp2
        go_round
        case rel=>exact⟨j+1,aC,by rw[Ea.o],nC⟩
        case measure=>simp[intOf];omega
     .rw[hu] at HU
      have Ea:=aD (show q8 (rs.take (j+1)) l=true by rw[HU.o];rfl);clear oV zgl;go_wp2
      go_round
      case rel=>exact⟨j+1,aC,by rw[Ea.o],nC⟩
      case measure=>simp[intOf];omega
    .have e:j=n:=aC
     subst e;have HT:=aD (show rs.take j=rs by rw[zZ (by rw[zHf.o];exact aV _)]);rw[HT.o];clear F6;obtain⟨u,hu⟩:=aU (q8 rs l);rw[<-hu] at zdZ⊢;clear hu;cases u
     .have Ea:=aD (show xU rs (k+1)=xU rs k++[l] by rw[zdZ.o];rfl)
      obtain⟨eY,gX,dZ,jW⟩:=HI.o;have HH:=aD eY;have zfG:=HZ.o;clear eY
      go_wp2_with (at_builtin;refine zjc _ rfl (.tmp 44) (.tmp 46) 38 rfl (gb+1) 3 i0 (.int .i64 0) 1 8 Tryz.underlying38 HH.o gX dZ jW rfl aH (.slice (some ⟨g,0,none⟩) L cl) L (eH (xU rs k)) rfl (zX Ko.o ?c1) aP ⟨_,0,none⟩ 1 1 [.int .i64 l] rfl rfl ?c2 La ?c5 ?c6 ?c7 ?_;(case c1=>exact λb hb=>rA _ _ b hb);(case c2=>exact E7 (cs:=#[.int .i64 l]) (mI _ _ aP));(case c5=>unfold maxLen;omega);(case c6=>omega);(case c7=>(simp;omega));intro g1 c1 w1 qE qM B1;have z8:=aD qE;have pU:=aD B1;clear qE qM B1)
      go_roundw
      case rel=>
       refine⟨k+1,g1,L+1,c1,aC,by rw[zgg.o];push_cast;rfl,by rw[Ea.o,HL.o];simp,rfl,?_,?_⟩
       .have b1:=HB.o
        exact(b1.alloc (by have:=HB.o.size;have:=HZ.o;omega) _).trans pU.o
       .rw[Ea.o,zDT];exact z8.o
      case measure=>have:=zgg.o;simp[intOf];omega
     .have Ea:=aD (show xU rs (k+1)=xU rs k by rw[zdZ.o];simp)
      go_wp2;go_roundw
      case rel=>exact⟨k+1,g,L,cl,aC,by rw[zgg.o];push_cast;rfl,by rw[Ea.o];exact HL.o,rfl,HB.o,by rw[Ea.o];exact Ko.o⟩
      case measure=>have:=zgg.o;simp[intOf];omega
  .have e:k=m:=aC
   subst e;clear F6;go_wp2;go_ret;refine⟨_,rfl,g,cl,by rw[HF.o,<-HL.o];rfl,?_,N8.o.trans (HB.o.mono (by have:=fS.o;omega))⟩;rw[HF.o,<-HL.o];obtain⟨h1,h2⟩:=Ko.o;refine⟨h1,h2.imp id λ⟨b,cap,cur,e1,e2,e3⟩=>⟨b,cap,cur,e1,by have:=fS.o;omega,e3⟩⟩
variable {xs:List aF}{s:Nat}
def b7.takeS {g:Nat}(h:b7 w lo hi s (some ⟨g,0,none⟩) n c xs)(hk:k<=n):b7 w lo hi s (some ⟨g,0,none⟩) k c (xs.take (k*s)):=by
 refine⟨by rw[rU,h.len];exact Nat.min_eq_left (Aa _ hk),eM hk h.le,h.cap,λh0=>?_⟩;obtain⟨b,off,e,h1,h2,h3,h4⟩:=h.at_ aC;refine⟨b,off,e,h1,h2,h3,λj v hv=>h4 j v ?_⟩;rw[List.getElem?_take] at hv;split at hv
 .exact hv
 .cases hv
def b7.dropS {g:Nat}(h:b7 w lo hi s (some ⟨g,0,none⟩) n c xs)(hk:k<=n):b7 w lo hi s (some ⟨g,k*s,none⟩) (n-k) (c-k) (xs.drop (k*s)):=by
 refine⟨by rw[xS,h.len,Nat.sub_mul],by have:=h.le;omega,by have:=h.cap;omega,λh0=>?_⟩;obtain⟨b,off,e,h1,h2,h3,h4⟩:=h.at_ aC;injection e with e;injection e with e1 e2;subst e1 e2;refine⟨g,k*s,rfl,h1,h2,h3,λj v hv=>?_⟩;rw[List.getElem?_drop] at hv;have:=h4 (k*s+j) v hv
 rwa [qX] at this
def b7.dropI {g:Nat}(h:b7 w lo hi s (some ⟨g,0,none⟩) n c xs)(hk:k<=n):b7 w lo hi s (if c=k then some ⟨g,0,none⟩ else some ⟨g,k*s,none⟩) (n-k) (c-k) (xs.drop (k*s)):=by
 have d:=h.dropS hk;by_cases e:c=k
 .rw[if_pos e]
  exact⟨d.len,d.le,d.cap,λh0=>by have:=h.le;omega⟩
 .rw[if_neg e];exact d
def zuJ (xs:List bE)(k:Nat):(bG xs).take (k*2)=bG (xs.take k):=by
 induction xs generalizing k with
 |nil=>simp[bG]
 |cons x xs ih=>
  cases k with
  |zero=>simp[bG]
  |succ k=>
   have e:(k+1)*2=k*2+1+1:=aC;rw[e];simp only[bG,zda,bE.cells,Sw,zgH,List.take_succ_cons];have:=ih k;unfold bG at this;rw[this]
def zpo (xs:List bE)(k:Nat):(bG xs).drop (k*2)=bG (xs.drop k):=by
 induction xs generalizing k with
 |nil=>simp[bG]
 |cons x xs ih=>
  cases k with
  |zero=>simp[bG]
  |succ k=>
   have e:(k+1)*2=k*2+1+1:=aC;rw[e];simp only[bG,zda,bE.cells,Sw,zgH,List.drop_succ_cons];have:=ih k;unfold bG at this;rw[this]
def zqx (xs ys:List bE):bG (xs++ys)=bG xs++bG ys:=by simp[bG]
def Vf (xs:List bE):∀u∈bG xs,u.oneCell'=true:=by
 intro u hu;obtain⟨d,_,hd⟩:=List.mem_flatMap.1 hu;simp only[bE.cells,jH,List.not_mem_nil,or_false] at hd;rcases hd with rfl|rfl<;>rfl
def zuB {xs:List bE}{x:bE}(hk:k<=xs.length)(h:∀j,j<k->∀b,xs[j]? =some b->x.p<=b.p)(hn:∀b,xs[k]? =some b->¬x.p<=b.p):tH xs x=xs.take k++x::xs.drop k:=by
 unfold tH
 induction xs generalizing k with
 |nil=>simp
 |cons y ys ih=>
  cases k with
  |zero=>
   have:=hn y rfl;simp[zcg,zn2,this]
  |succ k=>
   have hy:=h 0 aC y rfl;have:=ih (k:=k) (by simpa using hk) (λj hj b hb=>h (j+1) aC b zhn) (λb hb=>hn b zhn);simp[zcg,zn2,hy,this]
def zaX {W:aE}(h:W.cell? a1=some v1/\W.cell? a2=some v2/\bU W0.heap.size W0 W):bU W0.heap.size W0 W:=h.2.2
variable {u:aF}
def zoC {a b:bL}(h:w.cell? a=some u)(k:w.cell? b=some v):w.cell? a=some u/\w.cell? b=some v:=⟨h,k⟩
def zBo (lo hi n c g:Nat)(xs:List bE)(x:bE)(w:aE)(h:b7 w lo hi 2 (some ⟨g,0,none⟩) n c (bG xs))(hn:n<=100000):
 fH aK 93 #[.slice (some ⟨g,0,none⟩) n c,.agg #[.int .i64 x.c,.int .i64 x.p]] w λe w'=>∃v,e=.returned v/\zk0 100 2 w (tH xs x).length (bG (tH xs x)) v w':=by
 have hl:=aD h.callsLen;have zey:=aD h.le;obtain⟨i0,eY,gX,dZ,jW⟩:=y3 zdI;have HI:=aD (And.intro eY (And.intro gX (And.intro dZ jW)));clear eY gX dZ jW;obtain⟨gb,eV⟩:=aU w.heap.size;have fS:=aD eV;obtain⟨O,hO⟩:=aU (.cells #[.int .i64 x.c,.int .i64 x.p] 100:tT);have iR:(w.alloc O).heap[gb]? =some (.cells #[.int .i64 x.c,.int .i64 x.p] 100):=by rw[hO,eV];exact lP _ _
 have Bw:=aD iR;have N8:=aD (dO (eG w.heap.size w) O);have HO:=aD hO;clear eV hO iR
 go_enter Tryz.func93,Tryz.ntmps93
 go_wp2_with fail
 rw[<-HO.o,<-fS.o]
 go_loopw [5] (λi wr=>∃k:Nat,k<=n/\i=.int .i64 k/\bU (w.alloc O).heap.size (w.alloc O) wr/\∀j,j<k->∀b,xs[j]? =some b->x.p<=b.p) (λi _=>n-(intOf i).toNat)
 case atStart=>exact⟨0,jO _,rfl,eG _ _,λj hj=>absurd hj aC⟩
 case round=>
  obtain⟨k,hk,rfl,B,fV⟩:=hrel;have HC:=aD fV;have kg:=(eI B Bw.o).1;have zg:=(eI B Bw.o).2;have e0:=aJ kg 0;have e1:=aJ kg 1;have BW:=N8.o.trans (B.mono N8.o.size);have hs:=h.below BW;have zoy:(0:Int)<=(k:Int):=aC;have Jv:=aD BW;have HB:=aD B;clear fV kg BW B;by_cases aN:k<n
  .obtain⟨b,off,d,hA,_,_,h3,eE,fI,oV⟩:=hs.callsAt aN
   injection hA with hA;injection hA with y8 y4;subst y8 y4;simp only[qX] at fI oV;have HX:=aD eE;have i1:(k:Int)<(n:Int):=aC;by_cases hp:x.p<=d.p
   .have HP:=aD hp
    have zBH:=decide_eq_true hp;clear eE h hs h3 fI hp
    go_wp2_with fail
    go_quiet (fail)
    go_wp2;go_roundw
    case rel=>exact⟨k+1,aC,nC,⟨HB.o.os,HB.o.tape,HB.o.output,HB.o.size,HB.o.block⟩,λj hj b hb=>by
     by_cases e:j=k
     .subst e;rw[HX.o] at hb;injection hb with hb;exact hb▸HP.o
     .exact HC.o j aC b hb⟩
    case measure=>simp[intOf];omega
   .have HQ:=aD (zuB (x:=x) (k:=k) (by rw[hl.o];exact hk) HC.o (λb hb=>by rw[eE] at hb;injection hb with hb;exact hb▸hp))
    have zBH:=decide_eq_false hp;clear eE h3 fI hp
    go_wp2_with fail
    go_quiet (fail)
    go_wp2_with fail
    obtain⟨wq,rD⟩:=aU (wr.drewN nq);rw[<-rD];replace hs:b7 wq lo hi 2 (some ⟨g,0,none⟩) n c (bG xs):=by rw[rD];exact⟨hs.len,hs.le,hs.cap,hs.at_⟩
    replace e0:wq.cell? ⟨gb,0,none⟩=some (.int .i64 x.c):=by rw[rD];exact e0
    replace e1:wq.cell? ⟨gb,1,none⟩=some (.int .i64 x.p):=by rw[rD];exact e1
    replace zg:gb<wq.heap.size:=by rw[rD];exact zg
    have zbz:=aD (show bU w.heap.size w wq by rw[rD];exact⟨Jv.o.os,Jv.o.tape,Jv.o.output,Jv.o.size,Jv.o.block⟩);have zE7:=aD (show wr.heap.size<=wq.heap.size by rw[rD];exact aV _);clear rD;have HN:=aD (aV wq.heap.size);have Ed:=aD (zuJ xs k▸hs.takeS hk);have Ut:=aD (zpo xs k▸hs.dropI hk);have zu0:=aD zg;obtain⟨eY,gX,dZ,jW⟩:=HI.o;have HH:=aD eY;have mU:=zey.o;have zcZ:=aD (zoC e0 e1);have k1:(k:Int)<=(n:Int):=aC;have k2:(n:Int)<=(c:Int):=aC;have k3:(k:Int)<=(c:Int):=aC;clear eY hs h
    go_region_held3 (λW=>W.cell? ⟨gb,0,none⟩=some (.int .i64 x.c)/\W.cell? ⟨gb,1,none⟩=some (.int .i64 x.p)/\bU wq.heap.size wq W)
     ((refine zuC zgC zgC zcZ.o.1 zcZ.o.2 ?_;(repeat' (first|with_reducible assumption|with_reducible exact zaX Wa|with_reducible exact eG _ _|with_reducible apply dO|with_reducible apply zaw));done))
     (first
      |(refine zdm _ rfl (.tmp 22) (.tmp 25) 57 rfl wq.heap.size 100 i0 (.agg #[.int .i64 0,.int .i64 0]) 2 16 K9 HH.o gX dZ jW rfl aH _ 0 0 [] rfl (M9 ?c1 ?c2) (some ⟨g,0,none⟩) k c _ _ (bG (xs.take k)) rfl (Ed.o.below ?c3) (Vf _) ?c5 ?c6 ?c7 ?_;(case c1=>first|omega|(simp;done)|(simp;omega));(case c2=>((try with_reducible apply J6);(first|with_reducible assumption|(with_reducible refine mI _ _ ?_;simp)|(with_reducible refine dH ?_ _;first|with_reducible assumption|(with_reducible refine mI _ _ ?_;simp))|(with_reducible refine dH ?_ _;with_reducible refine dH ?_ _;first|with_reducible assumption|(with_reducible refine mI _ _ ?_;simp))|(with_reducible refine dH ?_ _;with_reducible refine dH ?_ _;with_reducible refine dH ?_ _;first|with_reducible assumption|(with_reducible refine mI _ _ ?_;simp)))));(case c3=>(repeat' (first|with_reducible assumption|with_reducible exact zaX Wa|with_reducible exact eG _ _|with_reducible apply dO|with_reducible apply zaw)));(case c5=>unfold maxLen;omega);(case c6=>omega);(case c7=>first|omega|(simp;done)|(simp;omega));intro g1 zhG w9 qE qM B1;rw[qX];simp only[qX,zgH] at qE;have z8:=aD qE;have sS:=aD qM;have BW:=bU.trans zqD B1;have z9:=BW.size;clear qE qM B1)
      |(refine zn1 _ rfl (.tmp 26) (.tmp 28) 57 rfl wq.heap.size 100 i0 (.agg #[.int .i64 0,.int .i64 0]) 2 16 K9 HH.o gX dZ jW rfl aH (.slice (some ⟨g1,0,none⟩) k zhG) k (bG (xs.take k)) rfl ?c1 aP ⟨_,0,none⟩ 1 1 [.int .i64 x.c,.int .i64 x.p] rfl rfl (E7 (cs:=#[.int .i64 x.c,.int .i64 x.p]) (t:=100) (fr:=(0,0)) ?c2) (by simp[zty]) ?c5 ?c6 ?c7 ?_;(case c1=>first|exact z8.o|exact zX z8.o (λb hb=>rA _ _ b hb));(case c2=>first|exact lP _ _|exact(sS.o.block _ zer zww).trans (by((try with_reducible apply J6);(first|with_reducible assumption|(with_reducible refine mI _ _ ?_;simp)|(with_reducible refine dH ?_ _;first|with_reducible assumption|(with_reducible refine mI _ _ ?_;simp))|(with_reducible refine dH ?_ _;with_reducible refine dH ?_ _;first|with_reducible assumption|(with_reducible refine mI _ _ ?_;simp))|(with_reducible refine dH ?_ _;with_reducible refine dH ?_ _;with_reducible refine dH ?_ _;first|with_reducible assumption|(with_reducible refine mI _ _ ?_;simp))))));(case c5=>unfold maxLen;omega);(case c6=>omega);(case c7=>first|omega|(simp;done)|(simp;omega));intro g2 zmc vU zdc zny B2;have zkI:=aD zdc;have Sj:=bU.trans (by first|exact BW|exact dO BW _) B2;have zDY:=Sj.size;clear zdc zny B2)
      |(refine zdm _ rfl (.tmp 29) (.tmp 32) 57 rfl wq.heap.size 100 i0 (.agg #[.int .i64 0,.int .i64 0]) 2 16 K9 HH.o gX dZ jW rfl aH g2 (k+1) zmc (bG (xs.take k)++[.int .i64 x.c,.int .i64 x.p]) rfl zkI.o (if c=k then some ⟨g,0,none⟩ else some ⟨g,k*2,none⟩) (n-k) (c-k) _ _ (bG (xs.drop k)) rfl (Ut.o.below Sj) (Vf _) ?c5 ?c6 ?c7 ?_;(case c5=>unfold maxLen;omega);(case c6=>omega);(case c7=>first|omega|(simp;done)|(simp;omega));intro g3 znD Cr zdb zjC B3;have zhB:=aD zdb;have zcJ:=Sj.trans B3;have zF5:=zcJ.size;clear zdb zjC B3))
    all_goals go_wp2_with fail
    all_goals go_ret
    all_goals
     have zfG:=zbz.o.size;have eQ:(tH xs x).length=k+1+(n-k):=by
      rw[HQ.o,gM,rU,pX,xS,hl.o];omega
     refine⟨_,rfl,g3,znD,?_,?_,zbz.o.trans (zcJ.mono zfG)⟩
     .rw[eQ];rfl
     .obtain⟨h1,h2⟩:=zhB.o
      have e:=eQ;have e2:bG (tH xs x)=bG (xs.take k)++[.int .i64 x.c,.int .i64 x.p]++bG (xs.drop k):=by rw[HQ.o,zqx];simp[bG,bE.cells]
      rw[e,e2];exact⟨h1,h2.imp id λ⟨b,cap,cur,e1,e2,e3⟩=>⟨b,cap,cur,e1,aC,e3⟩⟩
  .have HQ:=aD (zuB (x:=x) (k:=k) (by rw[hl.o];exact hk) HC.o (λb hb=>by rw[Ca (by rw[hl.o];omega)] at hb;cases hb))
   have nJ:=decide_eq_false aC
   go_wp2_with fail
   go_quiet (fail)
   go_wp2_with fail
   obtain⟨wq,rD⟩:=aU (wr.drewN nq);rw[<-rD];replace hs:b7 wq lo hi 2 (some ⟨g,0,none⟩) n c (bG xs):=by rw[rD];exact⟨hs.len,hs.le,hs.cap,hs.at_⟩
   replace e0:wq.cell? ⟨gb,0,none⟩=some (.int .i64 x.c):=by rw[rD];exact e0
   replace e1:wq.cell? ⟨gb,1,none⟩=some (.int .i64 x.p):=by rw[rD];exact e1
   replace zg:gb<wq.heap.size:=by rw[rD];exact zg
   have zbz:=aD (show bU w.heap.size w wq by rw[rD];exact⟨Jv.o.os,Jv.o.tape,Jv.o.output,Jv.o.size,Jv.o.block⟩);have zE7:=aD (show wr.heap.size<=wq.heap.size by rw[rD];exact aV _);clear rD;have HN:=aD (aV wq.heap.size);have Ed:=aD (zuJ xs k▸hs.takeS hk);have Ut:=aD (zpo xs k▸hs.dropI hk);have zu0:=aD zg;obtain⟨eY,gX,dZ,jW⟩:=HI.o;have HH:=aD eY;have mU:=zey.o;have zcZ:=aD (zoC e0 e1);have k1:(k:Int)<=(n:Int):=aC;have k2:(n:Int)<=(c:Int):=aC;have k3:(k:Int)<=(c:Int):=aC;clear eY hs h
   go_region_held3 (λW=>W.cell? ⟨gb,0,none⟩=some (.int .i64 x.c)/\W.cell? ⟨gb,1,none⟩=some (.int .i64 x.p)/\bU wq.heap.size wq W)
    ((refine zuC zgC zgC zcZ.o.1 zcZ.o.2 ?_;(repeat' (first|with_reducible assumption|with_reducible exact zaX Wa|with_reducible exact eG _ _|with_reducible apply dO|with_reducible apply zaw));done))
    (first
     |(refine zdm _ rfl (.tmp 22) (.tmp 25) 57 rfl wq.heap.size 100 i0 (.agg #[.int .i64 0,.int .i64 0]) 2 16 K9 HH.o gX dZ jW rfl aH _ 0 0 [] rfl (M9 ?c1 ?c2) (some ⟨g,0,none⟩) k c _ _ (bG (xs.take k)) rfl (Ed.o.below ?c3) (Vf _) ?c5 ?c6 ?c7 ?_;(case c1=>first|omega|(simp;done)|(simp;omega));(case c2=>((try with_reducible apply J6);(first|with_reducible assumption|(with_reducible refine mI _ _ ?_;simp)|(with_reducible refine dH ?_ _;first|with_reducible assumption|(with_reducible refine mI _ _ ?_;simp))|(with_reducible refine dH ?_ _;with_reducible refine dH ?_ _;first|with_reducible assumption|(with_reducible refine mI _ _ ?_;simp))|(with_reducible refine dH ?_ _;with_reducible refine dH ?_ _;with_reducible refine dH ?_ _;first|with_reducible assumption|(with_reducible refine mI _ _ ?_;simp)))));(case c3=>(repeat' (first|with_reducible assumption|with_reducible exact zaX Wa|with_reducible exact eG _ _|with_reducible apply dO|with_reducible apply zaw)));(case c5=>unfold maxLen;omega);(case c6=>omega);(case c7=>first|omega|(simp;done)|(simp;omega));intro g1 zhG w9 qE qM B1;rw[qX];simp only[qX,zgH] at qE;have z8:=aD qE;have sS:=aD qM;have BW:=bU.trans zqD B1;have z9:=BW.size;clear qE qM B1)
     |(refine zn1 _ rfl (.tmp 26) (.tmp 28) 57 rfl wq.heap.size 100 i0 (.agg #[.int .i64 0,.int .i64 0]) 2 16 K9 HH.o gX dZ jW rfl aH (.slice (some ⟨g1,0,none⟩) k zhG) k (bG (xs.take k)) rfl ?c1 aP ⟨_,0,none⟩ 1 1 [.int .i64 x.c,.int .i64 x.p] rfl rfl (E7 (cs:=#[.int .i64 x.c,.int .i64 x.p]) (t:=100) (fr:=(0,0)) ?c2) (by simp[zty]) ?c5 ?c6 ?c7 ?_;(case c1=>first|exact z8.o|exact zX z8.o (λb hb=>rA _ _ b hb));(case c2=>first|exact lP _ _|exact(sS.o.block _ zer zww).trans (by((try with_reducible apply J6);(first|with_reducible assumption|(with_reducible refine mI _ _ ?_;simp)|(with_reducible refine dH ?_ _;first|with_reducible assumption|(with_reducible refine mI _ _ ?_;simp))|(with_reducible refine dH ?_ _;with_reducible refine dH ?_ _;first|with_reducible assumption|(with_reducible refine mI _ _ ?_;simp))|(with_reducible refine dH ?_ _;with_reducible refine dH ?_ _;with_reducible refine dH ?_ _;first|with_reducible assumption|(with_reducible refine mI _ _ ?_;simp))))));(case c5=>unfold maxLen;omega);(case c6=>omega);(case c7=>first|omega|(simp;done)|(simp;omega));intro g2 zmc vU zdc zny B2;have zkI:=aD zdc;have Sj:=bU.trans (by first|exact BW|exact dO BW _) B2;have zDY:=Sj.size;clear zdc zny B2)
     |(refine zdm _ rfl (.tmp 29) (.tmp 32) 57 rfl wq.heap.size 100 i0 (.agg #[.int .i64 0,.int .i64 0]) 2 16 K9 HH.o gX dZ jW rfl aH g2 (k+1) zmc (bG (xs.take k)++[.int .i64 x.c,.int .i64 x.p]) rfl zkI.o (if c=k then some ⟨g,0,none⟩ else some ⟨g,k*2,none⟩) (n-k) (c-k) _ _ (bG (xs.drop k)) rfl (Ut.o.below Sj) (Vf _) ?c5 ?c6 ?c7 ?_;(case c5=>unfold maxLen;omega);(case c6=>omega);(case c7=>first|omega|(simp;done)|(simp;omega));intro g3 znD Cr zdb zjC B3;have zhB:=aD zdb;have zcJ:=Sj.trans B3;have zF5:=zcJ.size;clear zdb zjC B3))
   all_goals go_wp2_with fail
   all_goals go_ret
   all_goals
    have zfG:=zbz.o.size;have eQ:(tH xs x).length=k+1+(n-k):=by
     rw[HQ.o,gM,rU,pX,xS,hl.o];omega
    refine⟨_,rfl,g3,znD,?_,?_,zbz.o.trans (zcJ.mono zfG)⟩
    .rw[eQ];rfl
    .obtain⟨h1,h2⟩:=zhB.o
     have e:=eQ;have e2:bG (tH xs x)=bG (xs.take k)++[.int .i64 x.c,.int .i64 x.p]++bG (xs.drop k):=by rw[HQ.o,zqx];simp[bG,bE.cells]
     rw[e,e2];exact⟨h1,h2.imp id λ⟨b,cap,cur,e1,e2,e3⟩=>⟨b,cap,cur,e1,aC,e3⟩⟩
def zdl (l:List α)(i:Nat)(f g:α->α):(l.modify i f).modify i g=l.modify i (λx=>g (f x)):=by
 apply Ra;intro j;rw[zS,zS,zS];by_cases e:i=j
 .simp[e,Function.comp_def]
 .simp[e]
variable {v:fM}{r:b6}
def eA.setR {j:Nat}(f:bS->bS)(h:eA w lo v r)(hd:r.recs[i]? =some d)(hj:j<7)(hs:∀k,k<7->k≠j->(f d).cells[k]? =d.cells[k]?)(hv:(f d).cells[j]? =some u):
 eA (w.setCell ⟨v.gR,i*7+j,none⟩ u) lo v {r with recs:=r.recs.modify i f}/\oG v w (w.setCell ⟨v.gR,i*7+j,none⟩ u):=by
 obtain⟨h1,hg⟩:=h.rc.stored (i*7+j) u;rw[zsr hd hj hs hv] at h1;have a:=h.ap;refine⟨⟨?_,h.wt.kept hg (.inr Gv),h.bk.kept hg (.inr Gv),h.lg.kept hg (.inr Gv),a⟩,⟨hg.os,hg.tape,hg.output,hg.size,λb hb h1 _=>hg.block b hb (λe=>h1 (by injection e))⟩⟩;simp only[fM.sR,Gj];exact h1
def eA.recAt (h:eA w lo v r)(hd:r.recs[i]? =some d):
 w.cell? ⟨v.gR,i*7,none⟩=some (.int .i64 d.c)/\w.cell? ⟨v.gR,i*7+1,none⟩=some (.int .i64 d.l)/\w.cell? ⟨v.gR,i*7+2,none⟩=some (.int .i64 d.o)/\w.cell? ⟨v.gR,i*7+3,none⟩=some (.int .i64 d.f)/\w.cell? ⟨v.gR,i*7+4,none⟩=some (.int .i64 d.h)/\w.cell? ⟨v.gR,i*7+5,none⟩=some (.int .i64 d.t)/\w.cell? ⟨v.gR,i*7+6,none⟩=some (.string d.e):=by
 have hi:=(jX.1 hd).1;have g:∀j,j<7->w.cell? ⟨v.gR,i*7+j,none⟩=d.cells[j]? :=λj hj=>by
  rw[h.rc.cellAt (i*7+j) aC];have:=H4 bS.cells (s:=7) (λ_=>rfl) r.recs i j hj;unfold recs;rw[this,hd];rfl
 exact⟨g 0 aH,g 1 aH,g 2 aH,g 3 aH,g 4 aH,g 5 aH,g 6 aH⟩
variable {b:Nat}{w':aE}
def oG.blk {o:tT}(h:oG v w w')(hb:w.heap[b]? =some o)(h1:b≠v.gR)(h2:b≠v.gB):w'.heap[b]? =some o:=(h.block b (gA hb) h1 h2).trans hb
def S3 (h:rs[i]? =some d):F8 rs i=d.c:=by unfold F8;rw[h]
def Bi {E:Nat}{base n g c:Nat}(h:w.ownsRow base E s (.slice (some ⟨g,0,none⟩) n c) n xs)(hb:w'.heap[g]? =w.heap[g]?):w'.ownsRow base E s (.slice (some ⟨g,0,none⟩) n c) n xs:=by
 obtain⟨hl,h|⟨b,cap,cur,e,h1,hg,h2⟩⟩:=h
 .cases h.1
 .injection e with e
  injection e with e;injection e with e;subst e;exact⟨hl,.inr ⟨g,cap,cur,by simp_all,h1,hb.trans hg,h2⟩⟩
def zgw {base base':Nat}{e:aM}{size:Nat}{v:aF}(h:w.ownsRow base e size v n xs)(hb:base'<=base):w.ownsRow base' e size v n xs:=
 ⟨h.1,h.2.imp id λ⟨g,cap,cur,h1,h2,h3⟩=>⟨g,cap,cur,h1,eM hb h2,h3⟩⟩
def zFO (v:fM)(r:b6)(i g cp:Nat)(e:ByteArray):(fU v r).setIfInBounds 5 (.slice (some ⟨g,0,none⟩) (dY r.wait (F8 r.recs i)).length cp)=fU {v with gW:=g,cW:=cp} (lD r i e):=by
 have h:(lD r i e).recs.length=r.recs.length:=Gj _ _ _;simp only[fU,fM.sR,h];rfl
def gV (w:aE)(b:Nat)(a0 a1 a2 a3 a4 a5 a6 a7:aF):World:=(((((((w.setCell ⟨b,0,none⟩ a0).setCell ⟨b,1,none⟩ a1).setCell ⟨b,2,none⟩ a2).setCell ⟨b,3,none⟩ a3).setCell ⟨b,4,none⟩ a4).setCell ⟨b,5,none⟩ a5).setCell ⟨b,6,none⟩ a6).setCell ⟨b,7,none⟩ a7
variable {a1 a2 a0 a3 a4 a5 a6 a7:aF}{T:aM}
def zb4 {z0 z1 z2 z3 z4 z5 z6 z7:aF}(h:w.heap[b]? =some (.cells #[z0,z1,z2,z3,z4,z5,z6,z7] T)):(gV w b a0 a1 a2 a3 a4 a5 a6 a7).heap[b]? =some (.cells #[a0,a1,a2,a3,a4,a5,a6,a7] T):=by
 unfold gV;rw[nQ (nQ (nQ (nQ (nQ (nQ (nQ (nQ h a0) a1) a2) a3) a4) a5) a6) a7];simp only[List.setIfInBounds_toArray,List.set_cons_zero,List.set_cons_succ]
def Hc {x:Nat}(h:x≠b):(gV w b a0 a1 a2 a3 a4 a5 a6 a7).heap[x]? =w.heap[x]? :=by
 unfold gV;rw[eJ _ _ _ x h,eJ _ _ _ x h,eJ _ _ _ x h,eJ _ _ _ x h,eJ _ _ _ x h,eJ _ _ _ x h,eJ _ _ _ x h,eJ _ _ _ x h]
def zmN (w:aE)(b:Nat)(a0 a1 a2 a3 a4 a5 a6 a7:aF):(gV w b a0 a1 a2 a3 a4 a5 a6 a7).heap.size=w.heap.size:=by
 unfold gV;simp only[sU]
def ze4 (w:aE)(b:Nat)(a0 a1 a2 a3 a4 a5 a6 a7:aF):qC b (b+1) w (gV w b a0 a1 a2 a3 a4 a5 a6 a7):=
 ((((((((qC.refl b (b+1) w).setCell (p:=⟨b,0,none⟩) (aV _) (xD _) a0).setCell (p:=⟨b,1,none⟩) (aV _) (xD _) a1).setCell (p:=⟨b,2,none⟩) (aV _) (xD _) a2).setCell (p:=⟨b,3,none⟩) (aV _) (xD _) a3).setCell (p:=⟨b,4,none⟩) (aV _) (xD _) a4).setCell (p:=⟨b,5,none⟩) (aV _) (xD _) a5).setCell (p:=⟨b,6,none⟩) (aV _) (xD _) a6).setCell (p:=⟨b,7,none⟩) (aV _) (xD _) a7
def eA.set8 (h:eA w lo v r)(hb:b≠v.gR/\b≠v.gW/\b≠v.gB/\b≠v.gL):eA (gV w b a0 a1 a2 a3 a4 a5 a6 a7) lo v r:=
 ⟨Bi h.rc (Hc (Ne.symm hb.1)),Bi h.wt (Hc (Ne.symm hb.2.1)),Bi h.bk (Hc (Ne.symm hb.2.2.1)),Bi h.lg (Hc (Ne.symm hb.2.2.2)),h.ap⟩
def oG.set8 {w0:aE}(h:oG v w0 w)(hb:w0.heap.size<=b):oG v w0 (gV w b a0 a1 a2 a3 a4 a5 a6 a7):=
 have c:=ze4 w b a0 a1 a2 a3 a4 a5 a6 a7
 ⟨c.os.trans h.os,c.tape.trans h.tape,c.output.trans h.output,eM h.size c.size,λx hx h1 h2=>(Hc aC).trans (h.block x hx h1 h2)⟩
abbrev jV:Obj:=.cells #[.int .i64 0,.int .i64 0,.int .i64 0,.int .i64 0,.slice none 0 0,.slice none 0 0,.slice none 0 0,.slice none 0 0] 59
def zkn (lo i:Nat)(v:fM)(r:b6)(d:bS)(e:ByteArray)(w:aE)(h:eA w lo v r)(hd:r.recs[i]? =some d)(hn:r.recs.length<=100000)(Jw:r.wait.length<=100000)(dV:lo<=w.heap.size):
 fH aK 96 #[.agg (fU v r),.int .i64 (i:Int),.string e] w λx w'=>∃g c,x=.returned (.agg (fU {v with gW:=g,cW:=c} (lD r i e)))/\eA w' lo {v with gW:=g,cW:=c} (lD r i e)/\oG v w w'/\w.heap.size<=g:=by
 obtain⟨gb,eV⟩:=aU w.heap.size;have hl:=h.lts;have hi:=(jX.1 hd).1;obtain⟨O,hO⟩:=aU (.cells (fU v r) 59:tT);obtain⟨Z,hZ⟩:=aU (jV:tT);have iR:((w.alloc O).alloc Z).heap[gb]? =some (.cells (fU v r) 59):=by rw[hO,eV];exact dH (lP _ _) _
 have n9:((w.alloc O).alloc Z).heap[gb+1]? =some jV:=by rw[<-hZ];exact mI _ _ Y4
 have kG:=(h.alloc O).alloc Z;have T1:oG v w ((w.alloc O).alloc Z):=oG.of_below v (dO (dO (eG _ _) _) _);have Bw:=aD iR;have zaR:=aD n9;have lO:=aD kG;have Ed:=aD T1;have HO:=aD hO;have HZ:=aD (show Z=.cells #[.int .i64 0,.int .i64 0,.int .i64 0,.int .i64 0,.slice none 0 0,.slice none 0 0,.slice none 0 0,.slice none 0 0] 59 from hZ);have fS:=aD eV;have HD:=aD hd;clear hO hZ eV iR n9 kG T1 hd h;have i0:(0:Int)<=(i:Int):=aC;have i1:(i:Int)<(r.recs.length:Int):=aC
 go_enter Tryz.func96,Tryz.ntmps96
 go_upto_region 1 with fail
 rw[<-HO.o,<-HZ.o,<-fS.o];obtain⟨W1,dE⟩:=aU ((w.alloc O).alloc Z);have dZ:W1.heap.size=gb+2:=by rw[dE,fS.o];simp
 rw[<-dE] at Bw zaR lO Ed⊢;have o9:=aD dZ;have Kj:gb≠v.gR:=by have:=fS.o;omega
 have zM:gb≠v.gB:=by have:=fS.o;omega
 have Qd:gb+1≠v.gR:=by have:=fS.o;omega
 have zab:gb+1≠v.gB:=by have:=fS.o;omega
 clear dE dZ;have k:=aJ Bw.o;obtain⟨c0,c1,c2,c3,c4,c5,c6⟩:=lO.o.recAt HD.o;have fz:=λj=>lO.o.rc.frozenAt j;have k3:=k 3;have k4:=k 4;have S1:=lO.o.setR (λd=>{d with t:=r.clk}) HD.o (j:=5) aH zqg rfl;have l5:=aD S1;clear S1 k
 go_upto_region 2 with fail
 obtain⟨W2,qH⟩:=aU (W1.setCell ⟨v.gR,i*7+5,none⟩ (.int .i64 r.clk));rw[<-qH] at l5⊢;have Ah:(r.recs.modify i λd=>{d with t:=r.clk})[i]? =some {d with t:=r.clk}:=by rw[zS];simp[HD.o]
 have zgQ:=aD Ah;have zrc:=aD (l5.o.2.blk Bw.o Kj zM);have zD4:=aD (l5.o.2.blk zaR.o Qd zab);clear qH c0 c1 c2 c3 c4 c5 c6 fz k3 k4 Ah;have k4:=aJ zrc.o 4;obtain⟨c0,c1,c2,c3,c4,c5,c6⟩:=l5.o.1.recAt zgQ.o;have fz:=λj=>l5.o.1.rc.frozenAt j;have S2:=l5.o.1.setR (λd=>{d with e:=e}) zgQ.o (j:=6) aH ztg rfl;rw[zdl] at S2;have sP:=aD S2;clear S2
 go_upto_region 3 with fail
 obtain⟨W3,rZ⟩:=aU (W2.setCell ⟨v.gR,i*7+6,none⟩ (.string e));rw[<-rZ] at sP⊢;have zwy:(r.recs.modify i λd=>{d with t:=r.clk,e:=e})[i]? =some {d with t:=r.clk,e:=e}:=by rw[zS];simp[HD.o]
 have zzH:=aD zwy;have W9:=aD (Ed.o.same (l5.o.2.same sP.o.2));have zb0:=sP.o.2.blk zrc.o Kj zM;have zrd:=aD (sP.o.2.blk zD4.o Qd zab);have Oo:=aD (show eA W3 lo v {r with recs:=Kr r i e} from sP.o.1);have zni:gb+2<=W3.heap.size:=by have:=W9.o.size;have:=o9.o;have:=l5.o.2.size;have:=sP.o.2.size;omega
 clear rZ c0 c1 c2 c3 c4 c5 c6 fz k4 zwy;have k4:=aJ zb0 4;have k5:=aJ zb0 5;have fz:=eK zb0;obtain⟨c0,-,-,-,-,-,-⟩:=sP.o.1.recAt zzH.o;have zCX:=aD zb0;have J9:=Oo.o.slcW;have Qz:=aD J9;clear zb0 J9
 go_cut [] from 20 to 29 (λwx=>∃g c,wx.heap[gb]? =some (Gy {v with gW:=g,cW:=c} (lD r i e))/\wx.heap[gb+1]? =some jV/\eA wx lo {v with gW:=g,cW:=c} (lD r i e)/\oG v w wx/\w.heap.size<=g/\gb+1<g)
 case first=>
  go_region_with (go_at_call 95;refine(zf0 lo W3.heap.size r.wait.length v.cW (some ⟨v.gW,0,none⟩) r.wait d.c W3.drew (Qz.o.keep (aV _) (λ_ _ _ _=>rfl)) Jw).mono ?_;rintro x w4 ⟨_,rfl,g,cp,rfl,cP,b4⟩;have k0:=(eI b4 (J6 zCX.o)).1;have k5:=aJ k0 5;have fz:=eK k0;have z4:=gA k0;have Yz:=aD cP;clear cP)
  all_goals
   go_wp2_with fail
   go_meet
   have pY:=S3 HD.o;have Hy:=W9.o.size;have hg:W3.heap.size<=g:=(Yz.o.lt g rfl).1;have yY:∀b,b<W3.heap.size->b≠gb->(w4.setCell ⟨gb,5,none⟩ (.slice (some ⟨g,0,none⟩) (dY r.wait d.c).length cp)).heap[b]? =W3.heap[b]? :=λb hb aT=>(eJ w4 _ _ b aT).trans (b4.block b hb);have l3:=Oo.o.lts;have eV:=fS.o;refine⟨g,cp,?_,(yY _ (gA zrd.o) aC).trans zrd.o,?_,⟨b4.os.trans W9.o.os,b4.tape.trans W9.o.tape,b4.output.trans W9.o.output,?_,λb hb h1 h2=>(yY b aC aC).trans (W9.o.block b hb h1 h2)⟩,aC,aC⟩
   .rw[nQ k0,<-pY]
    rw[zFO v r i g cp e]
   .have a:=Oo.o.ap
    have hk:∀b,b<w.heap.size->W3.heap.size<=W3.heap.size:=λ_ _=>aV _;have row:(w4.setCell ⟨gb,5,none⟩ (.slice (some ⟨g,0,none⟩) (dY r.wait d.c).length cp)).ownsRow W3.heap.size 100 2 (.slice (some ⟨g,0,none⟩) (dY r.wait d.c).length cp) (dY r.wait d.c).length (bG (dY r.wait d.c)):=Bi Yz.o (eJ w4 _ _ g (by show g≠gb;omega));have znH:∀{E s n:Nat} {A:Nat} {c:Nat} {xs:List aF},A<gb->W3.ownsRow lo E s (.slice (some ⟨A,0,none⟩) n c) n xs->(w4.setCell ⟨gb,5,none⟩ (.slice (some ⟨g,0,none⟩) (dY r.wait d.c).length cp)).ownsRow lo E s (.slice (some ⟨A,0,none⟩) n c) n xs:=λ{E s n A c xs} hA h=>Bi h (yY A (h.lt A rfl).2 aC);have l0:=hl;refine⟨znH (by show v.gR<gb;omega) Oo.o.rc,?_,znH (by show v.gB<gb;omega) Oo.o.bk,znH (by show v.gL<gb;omega) Oo.o.lg,by simp only at*;omega⟩;have:=zgw row (base':=lo) aC;rw[<-pY] at this⊢;exact this
   .rw[sU];have:=b4.size;omega
 case rest=>
  obtain⟨g,c,kb,kr,hR,hT,hg,zII⟩:=hcut;have zEp:g<gb\/gb+1<g:=.inr zII;have k:=aJ kb;obtain⟨k0,k1,k2,k3,k4,k5,k6,k7⟩:=eR k;have q:=aJ kr;obtain⟨q0,q1,q2,q3,q4,q5,q6,q7⟩:=eR q;have qf:=eK kr;have HR:=aD hR;have HT:=aD hT;have HG:=aD hg;have jS:=aD kr;clear hR hT hg kb kr k q;go_wp2;have er:=aJ (zb4 (a0:=.int .i64 (lD r i e).o.ln) (a1:=.int .i64 (lD r i e).o.op) (a2:=.int .i64 (lD r i e).o.pt) (a3:=.int .i64 (lD r i e).clk) (a4:=.slice (some ⟨v.gR,0,none⟩) (lD r i e).recs.length v.cR) (a5:=.slice (some ⟨g,0,none⟩) (lD r i e).wait.length c) (a6:=.slice (some ⟨v.gB,0,none⟩) (lD r i e).back.length v.cB) (a7:=.slice (some ⟨v.gL,0,none⟩) (lD r i e).log.length v.cL) jS.o);have l:=HR.o.lts;have eV:=fS.o;have ziD:=HG.o;have yC:=hl;have a:=HR.o.ap;refine bodyPost_ret (v:=.agg (fU {v with gW:=g,cW:=c} (lD r i e))) ?_ rfl ⟨g,c,rfl,HR.o.set8 ?_,HT.o.set8 aC,ziD⟩
  .unfold gV at er
   simp[results,Tryz.results96,go_sem,er]
  .have zko:g<gb\/gb+1<g:=zEp
   simp only;omega
structure gP (w0 w:aE)(lo gb k:Nat)(v0 v:fM)(r:b6):Prop where
 ok:eA w lo v r
 turn:oG v0 w0 w
 moved:xH gb v0 v
 base:gb=w0.heap.size
 blk:w.heap[gb]? =some (.cells (fU v r) 59)
 size:gb+k<=w.heap.size
 kpos:0<k
 aR:v.gR<gb\/gb+k<=v.gR
 aW:v.gW<gb\/gb+k<=v.gW
 aB:v.gB<gb\/gb+k<=v.gB
 aL:v.gL<gb\/gb+k<=v.gL
 lob:lo<=gb
section
variable {w0 w w':aE}{lo gb k:Nat}{v0 v:fM}{r:b6}
def gP.keep (h:gP w0 w lo gb k v0 v r)(b:bU w.heap.size w w'):gP w0 w' lo gb k v0 v r:=
 ⟨h.ok.below b,h.turn.same (oG.of_below v0 b),h.moved,h.base,(b.block _ (gA h.blk)).trans h.blk,eM h.size b.size,h.kpos,h.aR,h.aW,h.aB,h.aL,h.lob⟩
def gP.alloc (h:gP w0 w lo gb k v0 v r)(o:tT):gP w0 (w.alloc o) lo gb k v0 v r:=h.keep (dO (eG _ _) o)
def gP.drew (h:gP w0 w lo gb k v0 v r):gP w0 w.drew lo gb k v0 v r:=h.keep ⟨rfl,rfl,rfl,aV _,λ_ _=>rfl⟩
def room_R (v:fM)(r:b6)(g c:Nat)(xs:List bS):(fU v r).setIfInBounds 4 (.slice (some ⟨g,0,none⟩) xs.length c)=fU {v with gR:=g,cR:=c} {r with recs:=xs}:=rfl
def room_W (v:fM)(r:b6)(g c:Nat)(xs:List bE):(fU v r).setIfInBounds 5 (.slice (some ⟨g,0,none⟩) xs.length c)=fU {v with gW:=g,cW:=c} {r with wait:=xs}:=rfl
def zoT (v:fM)(r:b6)(g c:Nat)(xs:List bE):(fU v r).setIfInBounds 6 (.slice (some ⟨g,0,none⟩) xs.length c)=fU {v with gB:=g,cB:=c} {r with back:=xs}:=rfl
def room_L (v:fM)(r:b6)(g c:Nat)(xs:List (List UInt8)):(fU v r).setIfInBounds 7 (.slice (some ⟨g,0,none⟩) xs.length c)=fU {v with gL:=g,cL:=c} {r with log:=xs}:=rfl
def zD {N g:Nat}{o:tT}(hb:w.grownBy w' (some g))(hN:w.heap[N]? =some o)(aT:N≠g):w'.heap[N]? =some o/\N<w'.heap.size:=
 ⟨(hb.block N (gA hN) (by simp;exact aT)).trans hN,lE (gA hN) hb.size⟩
variable {u:aF}
def zxt {row:Nat}{b i:Nat}(hg:w.grownBy w' (some row)){x:Nat}(hx:x<w.heap.size)(h1:x≠row)(h2:x≠b):(w'.setCell ⟨b,i,none⟩ u).heap[x]? =w.heap[x]? :=
 (eJ w' _ _ x h2).trans (hg.block x hx (by simp;exact h1))
def eA.setCell {b i:Nat}(h:eA w lo v r)(hb:b≠v.gR/\b≠v.gW/\b≠v.gB/\b≠v.gL):eA (w.setCell ⟨b,i,none⟩ u) lo v r:=
 ⟨Bi h.rc (eJ w _ _ _ (Ne.symm hb.1)),Bi h.wt (eJ w _ _ _ (Ne.symm hb.2.1)),Bi h.bk (eJ w _ _ _ (Ne.symm hb.2.2.1)),Bi h.lg (eJ w _ _ _ (Ne.symm hb.2.2.2)),h.ap⟩
def gP.appB {m g c:Nat}{x:bE}(h:gP w0 w lo gb k v0 v r)(hg:w.grownBy w' (some v.gB))(ho:w'.ownsRow lo 100 2 (.slice (some ⟨g,0,none⟩) m c) m (bG r.back++x.cells))(hm:m=r.back.length+1)(hw:g=v.gB\/g=w.heap.size):
 gP w0 (w'.setCell ⟨gb,6,none⟩ (.slice (some ⟨g,0,none⟩) m c)) lo gb k v0 {v with gB:=g,cB:=c} {r with back:=r.back++[x]}:=by
 have hk:=h.ok.appB hg ho hm aC;have sz:=h.size;have kp:=h.kpos;have aR:=h.aR;have aW:=h.aW;have aB:=h.aB;have aL:=h.aL;have l:=h.ok.lts;have hs:=hg.size;have Oe:=h.base;have kb:=(zD hg h.blk aC).1;have zcL:g≠gb:=aC;refine⟨hk.setCell (by refine⟨?_,?_,?_,?_⟩<;>(simp only;omega)),?_,⟨h.moved.r,h.moved.w,?_,h.moved.l⟩,h.base,?_,?_,kp,aR,aW,?_,aL,h.lob⟩
 .have t:=h.turn
  have mb:=h.moved.b;refine⟨hg.os.trans t.os,hg.tape.trans t.tape,hg.output.trans t.output,?_,λb hb h1 h2=>?_⟩
  .rw[sU];have:=t.size;omega
  .exact(zxt hg zdF aC aC).trans (t.block b hb h1 h2)
 .have:=h.moved.b
  simp only;omega
 .rw[nQ kb]
  have e:=zoT v r g c (r.back++[x]);rw[hm];simp only[gM,pX,r8] at e;exact congrArg (λa=>some (zr6 a 59)) e
 .rw[sU];omega
 .simp only;omega
def gP.appR {m g c:Nat}{x:bS}(h:gP w0 w lo gb k v0 v r)(hg:w.grownBy w' (some v.gR))(ho:w'.ownsRow lo 50 7 (.slice (some ⟨g,0,none⟩) m c) m (recs r.recs++x.cells))(hm:m=r.recs.length+1)(hw:g=v.gR\/g=w.heap.size):
 gP w0 (w'.setCell ⟨gb,4,none⟩ (.slice (some ⟨g,0,none⟩) m c)) lo gb k v0 {v with gR:=g,cR:=c} {r with recs:=r.recs++[x]}:=by
 have hk:=h.ok.appR hg ho hm aC;have sz:=h.size;have kp:=h.kpos;have aR:=h.aR;have aW:=h.aW;have aB:=h.aB;have aL:=h.aL;have l:=h.ok.lts;have hs:=hg.size;have Oe:=h.base;have kb:=(zD hg h.blk aC).1;have zcL:g≠gb:=aC;refine⟨hk.setCell (by refine⟨?_,?_,?_,?_⟩<;>(simp only;omega)),?_,⟨?_,h.moved.w,h.moved.b,h.moved.l⟩,h.base,?_,?_,kp,?_,aW,aB,aL,h.lob⟩
 .have t:=h.turn
  have mb:=h.moved.r;refine⟨hg.os.trans t.os,hg.tape.trans t.tape,hg.output.trans t.output,?_,λb hb h1 h2=>?_⟩
  .rw[sU];have:=t.size;omega
  .exact(zxt hg zdF aC aC).trans (t.block b hb h1 h2)
 .have:=h.moved.r
  simp only;omega
 .rw[nQ kb]
  have e:=room_R v r g c (r.recs++[x]);rw[hm];simp only[gM,pX,r8] at e;exact congrArg (λa=>some (zr6 a 59)) e
 .rw[sU];omega
 .simp only;omega
variable {xs:List bE}
def gP.setW {g c n:Nat}(h:gP w0 w lo gb k v0 v r)(b:bU n w w')(ho:w'.ownsRow n 100 2 (.slice (some ⟨g,0,none⟩) xs.length c) xs.length (bG xs))(hn:n=w.heap.size):
 gP w0 (w'.setCell ⟨gb,5,none⟩ (.slice (some ⟨g,0,none⟩) xs.length c)) lo gb k v0 {v with gW:=g,cW:=c} {r with wait:=xs}:=by
 subst hn;have hg:=(ho.lt g rfl).1;have sz:=h.size;have l:=h.ok.lts;have Oe:=h.base;have lob:=h.lob;have hk:=h.ok.newW (w':=w') (λx hx=>b.block x hx) (zgw ho aC) rfl hg;have kp:=h.kpos;have aR:=h.aR;have aW:=h.aW;have aB:=h.aB;have aL:=h.aL;have hs:=b.size;have kb:=(eI b h.blk).1;refine⟨hk.setCell (by refine⟨?_,?_,?_,?_⟩<;>(simp only;omega)),?_,⟨h.moved.r,.inr Ku,h.moved.b,h.moved.l⟩,h.base,?_,?_,kp,aR,.inr Ku,aB,aL,h.lob⟩
 .have t:=h.turn
  refine⟨b.os.trans t.os,b.tape.trans t.tape,b.output.trans t.output,?_,λy hy h1 h2=>?_⟩
  .rw[sU];have:=t.size;omega
  .exact((eJ w' _ _ y zhx).trans (b.block y zdF)).trans (t.block y hy h1 h2)
 .rw[nQ kb]
  rw[room_W v r g c xs]
 .rw[sU];omega
def gP.setB {g c n:Nat}(h:gP w0 w lo gb k v0 v r)(b:bU n w w')(ho:w'.ownsRow n 100 2 (.slice (some ⟨g,0,none⟩) xs.length c) xs.length (bG xs))(hn:n=w.heap.size):
 gP w0 (w'.setCell ⟨gb,6,none⟩ (.slice (some ⟨g,0,none⟩) xs.length c)) lo gb k v0 {v with gB:=g,cB:=c} {r with back:=xs}:=by
 subst hn;have hg:=(ho.lt g rfl).1;have sz:=h.size;have l:=h.ok.lts;have Oe:=h.base;have lob:=h.lob;have hk:=h.ok.newB (w':=w') (λx hx=>b.block x hx) (zgw ho aC) rfl hg;have kp:=h.kpos;have aR:=h.aR;have aW:=h.aW;have aB:=h.aB;have aL:=h.aL;have hs:=b.size;have kb:=(eI b h.blk).1;refine⟨hk.setCell (by refine⟨?_,?_,?_,?_⟩<;>(simp only;omega)),?_,⟨h.moved.r,h.moved.w,.inr Ku,h.moved.l⟩,h.base,?_,?_,kp,aR,aW,.inr Ku,aL,h.lob⟩
 .have t:=h.turn
  refine⟨b.os.trans t.os,b.tape.trans t.tape,b.output.trans t.output,?_,λy hy h1 h2=>?_⟩
  .rw[sU];have:=t.size;omega
  .exact((eJ w' _ _ y zhx).trans (b.block y zdF)).trans (t.block y hy h1 h2)
 .rw[nQ kb]
  rw[zoT v r g c xs]
 .rw[sU];omega
def gP.setR {i j:Nat}{d:bS}(f:bS->bS)(h:gP w0 w lo gb k v0 v r)(hd:r.recs[i]? =some d)(hj:j<7)(hs:∀k,k<7->k≠j->(f d).cells[k]? =d.cells[k]?)(hv:(f d).cells[j]? =some u):
 gP w0 (w.setCell ⟨v.gR,i*7+j,none⟩ u) lo gb k v0 v {r with recs:=r.recs.modify i f}:=by
 obtain⟨h1,h2⟩:=h.ok.setR f hd hj hs hv;have l:=h.ok.lts;have Oe:=h.base;have mr:=h.moved.r;have kp:=h.kpos;have aR:=h.aR;have sz:=h.size;refine⟨h1,?_,h.moved,h.base,?_,by rw[sU];exact h.size,h.kpos,h.aR,h.aW,h.aB,h.aL,h.lob⟩
 .have t:=h.turn
  refine⟨t.os,t.tape,t.output,by rw[sU];exact t.size,λy hy e1 e2=>?_⟩;exact(eJ w _ _ y (by show y≠v.gR;omega)).trans (t.block y hy e1 e2)
 .have e:(w.setCell ⟨v.gR,i*7+j,none⟩ u).heap[gb]? =w.heap[gb]? :=eJ w _ _ gb (by show gb≠v.gR;omega)
  rw[e,h.blk];simp only[fU,fM.sR,Gj]
def gP.turned {n:Nat}{v':fM}{r':b6}(h:gP w0 w lo gb k v0 v r)(ho:eA w' lo v' r')(t:oG v w w')(m:xH n v v')(hn:n=w.heap.size):
 eA w' lo v' r'/\oG v0 w0 w'/\xH gb v0 v'/\w'.heap[gb]? =some (.cells (fU v r) 59):=by
 have Oe:=h.base;have sz:=h.size;have kp:=h.kpos;have aR:=h.aR;have aB:=h.aB;exact⟨ho,h.turn.trans t h.moved aC,h.moved.trans m aC,t.blk h.blk aC aC⟩
def gP.done {b:Nat}{a0 a1 a2 a3 a4 a5 a6 a7:aF}(h:gP w0 w lo gb k v0 v r)(hb:gb<=b/\b<gb+k):eA (gV w b a0 a1 a2 a3 a4 a5 a6 a7) lo v r/\oG v0 w0 (gV w b a0 a1 a2 a3 a4 a5 a6 a7)/\xH w0.heap.size v0 v:=by
 have aR:=h.aR;have aW:=h.aW;have aB:=h.aB;have aL:=h.aL;have Oe:=h.base;exact⟨h.ok.set8 aC,h.turn.set8 aC,Oe▸h.moved⟩
def Ax {a:bL}{v:aF}(h:w.cell? a=some v)(o:tT):(w.alloc o).cell? a=some v:=(aE.cell?_alloc_some w a o (by rw[h];rfl)).trans h
end
def sZ {z0 z1 z2 z3 z4 z5 z6 z7:aF}(v:fM)(r:b6)(h:w.heap[b]? =some (.cells #[z0,z1,z2,z3,z4,z5,z6,z7] T)):
 (gV w b (.int .i64 r.o.ln) (.int .i64 r.o.op) (.int .i64 r.o.pt) (.int .i64 r.clk) (v.sR r) (v.sW r) (v.sB r) (v.sL r)).heap[b]? =some (.cells #[.int .i64 r.o.ln,.int .i64 r.o.op,.int .i64 r.o.pt,.int .i64 r.clk,v.sR r,v.sW r,v.sB r,v.sL r] T):=zb4 h
def ze2 (h:eA w lo v r)(dV:lo<=w.heap.size):∃(gb:Nat) (O Z:tT),pR (gb=w.heap.size)/\pR (O=.cells (fU v r) 59)/\pR (Z=.cells #[.int .i64 0,.int .i64 0,.int .i64 0,.int .i64 0,.slice none 0 0,.slice none 0 0,.slice none 0 0,.slice none 0 0] 59)/\
 pR (gP w ((w.alloc O).alloc Z) lo gb 2 v v r)/\pR (((w.alloc O).alloc Z).heap[gb+1]? =some jV)/\pR (((w.alloc O).alloc Z).heap.size=gb+2)/\pR (v.gR<gb/\v.gW<gb/\v.gB<gb/\v.gL<gb):=by
 obtain⟨gb,eV⟩:=aU w.heap.size;have hl:=h.lts;obtain⟨O,hO⟩:=aU (.cells (fU v r) 59:tT);obtain⟨Z,hZ⟩:=aU (jV:tT);have iR:((w.alloc O).alloc Z).heap[gb]? =some (Gy v r):=by rw[hO,eV];exact dH (lP _ _) _
 have n9:((w.alloc O).alloc Z).heap[gb+1]? =some jV:=by rw[<-hZ];exact mI _ _ Y4
 have dZ:((w.alloc O).alloc Z).heap.size=gb+2:=by rw[eV];simp
 have eZ:=aD (show gP w ((w.alloc O).alloc Z) lo gb 2 v v r from⟨(h.alloc O).alloc Z,oG.of_below v (dO (dO (eG _ _) _) _),xH.refl _ _,eV,iR,by rw[dZ];exact aV _,aC,.inl aC,.inl aC,.inl aC,.inl aC,aC⟩);have o9:=aD dZ;have jS:=aD n9;have HO:=aD hO;have HZ:=aD (show Z=.cells #[.int .i64 0,.int .i64 0,.int .i64 0,.int .i64 0,.slice none 0 0,.slice none 0 0,.slice none 0 0,.slice none 0 0] 59 from hZ);have fS:=aD eV;have HL:=aD (show v.gR<gb/\v.gW<gb/\v.gB<gb/\v.gL<gb by omega);exact⟨gb,O,Z,fS,HO,HZ,eZ,jS,o9,HL⟩
def zIN {u:Nat}(h:9<u):Ls u=Ls (u/10)++[Rg (48+u%10)]:=by
 rw[Ls,dif_neg aC]
def zbe (k:Nat)(hk:k<=100000000)(w:aE):
 fH aK 94 #[.int .i64 k] w λe w'=>e=.returned (.string ⟨(Kq k).toArray⟩)/\bU w.heap.size w w':=by
 have hI:=aD (Lib.itoa_nonneg k)
 go_enter Tryz.func94,Tryz.ntmps94
 go_wp2
 go_loopw [0,3] (λa s wr=>∃(u:Nat) (l:List UInt8),a=.int .i64 u/\s=.string ⟨l.toArray⟩/\u<=100000000/\Ls u++l=Ls k/\bU w.heap.size w wr) (λa _ _=>(intOf a).toNat)
 case atStart=>exact⟨k,[],rfl,rfl,hk,List.append_nil _,eG _ _⟩
 case round=>
  obtain⟨u,l,rfl,rfl,hu,hl,B⟩:=hrel;have HL:=aD hl;have Fl:l.length<=20:=by have:=congrArg Yn HL.o;rw[gM] at this;have:=Nb (k:=k) aC;omega
  by_cases aN:9<u
  .have zaB:=cv1 wr (48+u%10) aC
   rw[show((48+u%10:Nat):Int)=48+(u:Int)%10 by omega] at zaB;have HD:=aD (zIN aN);go_wp2;go_roundw
   case rel=>exact⟨u/10,Rg (48+u%10)::l,by first|rfl|(congr 1;omega),by rw[Hx];simp,aC,by rw[<-HL.o,HD.o];simp,dO B _⟩
   case measure=>simp[intOf];omega
  .have zaB:=cv1 wr (48+u) aC
   rw[show((48+u:Nat):Int)=48+(u:Int) by omega] at zaB;have HT:=aD (show(⟨[Rg (48+u)].toArray⟩:ByteArray)++⟨l.toArray⟩=⟨(Kq k).toArray⟩ by rw[Hx,hI.o,<-HL.o,ztN aC];simp);go_wp2;go_ret;exact⟨congrArg (λx=>znR (aF.string x)) (by rw[<-HT.o];simp),dO B _⟩
end Go.Proofs.YtfcjiloojkjaeaaGreatDoor
namespace Go.Tt
abbrev Pr:=Nat->Nat->Prop
def Pr.le (R R':Pr):Prop:=∀a b,R a b->R' a b
def Pr.le.refl (R:Pr):R.le R:=λ_ _ h=>h
variable {R R':Pr}
def Pr.le.trans {Pc:Pr}(h:R.le R')(h':R'.le Pc):R.le Pc:=λa b x=>h' a b (h a b x)
def Pr.add (R:Pr)(n n':Nat):Pr:=λa b=>R a b\/(a=n/\b=n')
def Pr.le_add (R:Pr)(n n':Nat):R.le (R.add n n'):=λ_ _ h=>.inl h
inductive fW (R:Pr):bL->bL->Prop
 |mk {b b' o:Nat} {s:Option Nat}:R b b'->fW R ⟨b,o,s⟩ ⟨b',o,s⟩
inductive wP (R:Pr):Option bL->Option bL->Prop
 |none:wP R none none
 |some {a a':bL}:fW R a a'->wP R (some a) (some a')
inductive Eu (R:Pr):Option Nat->Option Nat->Prop
 |none:Eu R none none
 |some {a a':Nat}:R a a'->Eu R (some a) (some a')
def Pr.or (R K:Pr):Pr:=λa b=>R a b\/K a b
variable {K:Pr}
def Pr.or_mono (h:R.le R'):(R.or K).le (R'.or K):=λa b x=>x.imp (h a b) id
def HidV:aF->Prop
 | .agg _| .tuple _| .bool _| .nilIface=>False
 |_=>True
inductive VR (S:aO->Prop)(K R:Pr):aF->aF->Prop
 |bool (b:Bool):VR S K R (.bool b) (.bool b)
 |int (k:D4) (n:Int):VR S K R (.int k n) (.int k n)
 |string (s:ByteArray):VR S K R (.string s) (.string s)
 |nilFunc:VR S K R .nilFunc .nilFunc
 |nilIface:VR S K R .nilIface .nilIface
 |pointer {a a':Option bL}:wP R a a'->VR S K R (.pointer a) (.pointer a')
 |slice {a a':Option bL} {n c:Nat}:wP R a a'->VR S K R (.slice a n c) (.slice a' n c)
 |map {a a':Option Nat}:Eu R a a'->VR S K R (.map a) (.map a')
 |chan {a a':Option Nat}:Eu (R.or K) a a'->VR S K R (.chan a) (.chan a')
 |func {f:aO} {xs bX ys Vx:Array aF}:S f->xs.size=bX.size->(∀(i:Nat) (v v':aF),xs[i]? =some v->bX[i]? =some v'->VR S K R v v')->
  ys.size=Vx.size->(∀(i:Nat) (v v':aF),ys[i]? =some v->Vx[i]? =some v'->VR S K R v v')->VR S K R (.func (.func f) xs ys) (.func (.func f) bX Vx)
 |iface {t:aM} {v v':aF}:VR S K R v v'->VR S K R (.iface t v) (.iface t v')
 |agg {xs bX:Array aF}:xs.size=bX.size->(∀(i:Nat) (v v':aF),xs[i]? =some v->bX[i]? =some v'->VR S K R v v')->VR S K R (.agg xs) (.agg bX)
 |tuple {xs bX:Array aF}:xs.size=bX.size->(∀(i:Nat) (v v':aF),xs[i]? =some v->bX[i]? =some v'->VR S K R v v')->VR S K R (.tuple xs) (.tuple bX)
 |junk {v':aF}:HidV v'->VR S K R .nilFunc v'
def bK (S:aO->Prop)(K R:Pr)(xs bX:Array aF):Prop:=xs.size=bX.size/\∀(i:Nat) (v v':aF),xs[i]? =some v->bX[i]? =some v'->VR S K R v v'
section
variable {S:aO->Prop}{K R R':Pr}
def fW.mono (h:R.le R'){a a':bL}(x:fW R a a'):fW R' a a':=by cases x with|mk x=>exact .mk (h _ _ x)
def wP.mono (h:R.le R'){a a':Option bL}(x:wP R a a'):wP R' a a':=by cases x with|none=>exact .none|some x=>exact .some (x.mono h)
def Eu.mono (h:R.le R'){a a':Option Nat}(x:Eu R a a'):Eu R' a a':=by cases x with|none=>exact .none|some x=>exact .some (h _ _ x)
variable {v v':aF}
def VR.mono (h:R.le R')(x:VR S K R v v'):VR S K R' v v':=by
 induction x with
 |bool b=>exact .bool b
 |int k n=>exact .int k n
 |string s=>exact .string s
 |nilFunc=>exact .nilFunc
 |nilIface=>exact .nilIface
 |pointer x=>exact .pointer (x.mono h)
 |slice x=>exact .slice (x.mono h)
 |map x=>exact .map (x.mono h)
 |chan x=>exact .chan (x.mono (Pr.or_mono h))
 |func s e1 _ e2 _ i1 i2=>exact .func s e1 i1 e2 i2
 |iface _ ih=>exact .iface ih
 |agg e _ ih=>exact .agg e ih
 |tuple e _ ih=>exact .tuple e ih
 |junk h=>exact .junk h
variable {xs bX:Array aF}
def bK.mono (h:R.le R')(x:bK S K R xs bX):bK S K R' xs bX:=⟨x.1,λi v v' h1 h2=>(x.2 i v v' h1 h2).mono h⟩
variable {i:Nat}
def bK.get (x:bK S K R xs bX)(h:xs[i]? =some v):∃v',bX[i]? =some v'/\VR S K R v v':=by
 have hi:i<bX.size:=by rw[<-x.1];exact(dQ.1 h).1
 exact⟨bX[i],mD hi,x.2 i _ _ h (mD hi)⟩
def bK.none (x:bK S K R xs bX)(h:xs[i]? =none):bX[i]? =none:=by
 rw[zyl] at h⊢;rw[<-x.1];exact h
def bK.getD (x:bK S K R xs bX)(i:Nat){d d':aF}(hd:VR S K R d d'):VR S K R (xs.getD i d) (bX.getD i d'):=by
 rw[tJ,tJ]
 cases h:xs[i]? with
 |none=>rw[x.none h];exact hd
 |some v=>obtain⟨v',h',hv⟩:=x.get h;rw[h'];exact hv
def bK.set (x:bK S K R xs bX)(i:Nat)(hv:VR S K R v v'):bK S K R (xs.setIfInBounds i v) (bX.setIfInBounds i v'):=by
 refine⟨by simp[x.1],λj u u' h h'=>?_⟩;by_cases e:i=j
 .subst e
  rw[Array.getElem?_setIfInBounds] at h h';simp only[if_true] at h h';split at h<;>split at h'<;>simp_all
 .rw[jP e] at h h'
  exact x.2 j u u' h h'
def bK.push (x:bK S K R xs bX)(hv:VR S K R v v'):bK S K R (xs.push v) (bX.push v'):=by
 refine⟨by simp[x.1],λj u u' h h'=>?_⟩;rw[Zl] at h h';rw[<-x.1] at h';split at h
 .rename_i e;rw[if_pos e] at h';injection h with h;injection h' with h';subst h h';exact hv
 .rename_i e;rw[if_neg e] at h';exact x.2 j u u' h h'
def bK.append {ys Vx:Array aF}(x:bK S K R xs bX)(y:bK S K R ys Vx):bK S K R (xs++ys) (bX++Vx):=by
 refine⟨by simp[x.1,y.1],λj u u' h h'=>?_⟩;rw[Array.getElem?_append] at h h';rw[<-x.1] at h';split at h
 .rename_i e;rw[if_pos e] at h';exact x.2 j u u' h h'
 .rename_i e;rw[if_neg e] at h';exact y.2 _ u u' h h'
def bK.empty:bK S K R #[] #[]:=⟨rfl,λi v v' h=>by simp at h⟩
def bK.one (h:VR S K R v v'):bK S K R #[v] #[v']:=bK.empty.push h
def bK.extract (x:bK S K R xs bX)(i j:Nat):bK S K R (xs.extract i j) (bX.extract i j):=by
 refine⟨by simp[x.1],λk u u' h h'=>?_⟩;rw[Array.getElem?_extract] at h h';split at h
 .rename_i e;rw[<-x.1,if_pos e] at h';exact x.2 _ u u' h h'
 .cases h
def VR.agg' (x:bK S K R xs bX):VR S K R (.agg xs) (.agg bX):=.agg x.1 x.2
def VR.tuple' (x:bK S K R xs bX):VR S K R (.tuple xs) (.tuple bX):=.tuple x.1 x.2
def VR.cells (x:VR S K R v v'):bK S K R v.cells v'.cells:=by
 cases x with
 |agg e h=>exact⟨e,h⟩
 |bool b=>exact .one (.bool b)
 |int k n=>exact .one (.int k n)
 |string s=>exact .one (.string s)
 |nilFunc=>exact .one .nilFunc
 |nilIface=>exact .one .nilIface
 |pointer x=>exact .one (.pointer x)
 |slice x=>exact .one (.slice x)
 |map x=>exact .one (.map x)
 |chan x=>exact .one (.chan x)
 |func s e1 h1 e2 h2=>exact .one (.func s e1 h1 e2 h2)
 |iface x=>exact .one (.iface x)
 |tuple e h=>exact .one (.tuple e h)
 |junk h=>
  have e:v'.cells=#[v']:=by cases v'<;>first|rfl|exact h.elim
  rw[e];exact .one (.junk h)
end
structure dL where
 c:bR
 fs:Array Func
 op:aO->Bool
 lw:aO->Bool
 gs:aO->Bool
 dy:Bool
abbrev dL.g (P:dL):Program:={P.c with funcs:=P.fs}
abbrev dL.underlying (P:dL)(t:aM):=P.c.underlying t
abbrev dL.info? (P:dL)(t:aM):=P.c.info? t
abbrev dL.globals (P:dL):=P.c.globals
def Bc (p:bR)(g:Nat):Bool:=match p.globals[g]? with|some x=>(match p.underlying x.type with|some (.array _ _)=>true|_=>false)|none=>false
structure Gp where
 n:Nat
 tab:Nat->Bool
abbrev o5 (p:bR):Gp:=⟨p.globals.size,Bc p⟩
abbrev dL.gp (P:dL):Gp:=o5 P.c
def dL.underlying_g (P:dL)(t:aM):P.g.underlying t=P.c.underlying t:=rfl
def dL.info_g (P:dL)(t:aM):P.g.info? t=P.c.info? t:=rfl
def dL.cells_g (P:dL)(t:aM):P.g.cellsOf t=P.c.cellsOf t:=rfl
def dL.bytes_g (P:dL)(t:aM):P.g.bytesOf t=P.c.bytesOf t:=rfl
def dL.depth_g (P:dL):P.g.depth=P.c.depth:=rfl
def dL.byteOfCell_g (P:dL):∀(d:Nat) (t:aM) (o:Nat),byteOfCell P.g d t o=byteOfCell P.c d t o:=by
 intro d
 induction d with
 |zero=>intro t o;rfl
 |succ d ih=>
  intro t o;unfold byteOfCell;rw[P.underlying_g];simp only[ih,P.cells_g,P.bytes_g];rfl
def dL.globals_g (P:dL):P.g.globals=P.c.globals:=rfl
inductive Bz (S:aO->Prop)(K R:Pr):oX->oX->Prop
 |mk {k k' v v':aF} {born:Nat}:VR S K R k k'->VR S K R v v'->Bz S K R ⟨k,v,born⟩ ⟨k',v',born⟩
def qL (S:aO->Prop)(K R:Pr)(es fC:Array oX):Prop:=es.size=fC.size/\∀(i:Nat) (e e':oX),es[i]? =some e->fC[i]? =some e'->Bz S K R e e'
def Ln (fz:Nat×Nat)(o:Nat):Prop:=fz.1<=o/\o<fz.2
inductive oH (S:aO->Prop)(K R:Pr):tT->tT->Prop
 |cells {c c':Array aF} {T:aM} {fz Jf:Nat×Nat}:bK S K R c c'->(∀o,Ln Jf o->Ln fz o)->oH S K R (.cells c T fz) (.cells c' T Jf)
 |map {es fC:Array oX} {cl:Nat}:qL S K R es fC->oH S K R (.map es cl) (.map fC cl)
 |chan {cap s r:Nat} {K8 zve:Array aF} {closed tm:Bool}:bK S K R K8 zve->oH S K R (.chan cap K8 closed s r tm) (.chan cap zve closed s r tm)
 |stringIter (s:ByteArray) (pos:Nat):oH S K R (.stringIter s pos) (.stringIter s pos)
 |number {a a':bL} {lost:Bool}:fW R a a'->oH S K R (.number a lost) (.number a' lost)
 |mapIter {m m':Option Nat} {since stepped:Nat} {seen:Array Nat}:Eu R m m'->oH S K R (.mapIter m since seen stepped) (.mapIter m' since seen stepped)
section
variable {S:aO->Prop}{K R R':Pr}
def Bz.mono (h:R.le R'){e e':oX}(x:Bz S K R e e'):Bz S K R' e e':=by cases x with|mk a b=>exact .mk (a.mono h) (b.mono h)
def qL.mono (h:R.le R'){e e':Array oX}(x:qL S K R e e'):qL S K R' e e':=⟨x.1,λi a b h1 h2=>(x.2 i a b h1 h2).mono h⟩
def oH.mono (h:R.le R'){o o':tT}(x:oH S K R o o'):oH S K R' o o':=by
 cases x with
 |cells a b=>exact .cells (a.mono h) b
 |map a=>exact .map (a.mono h)
 |chan a=>exact .chan (a.mono h)
 |stringIter s p=>exact .stringIter s p
 |number a=>exact .number (a.mono h)
 |mapIter a=>exact .mapIter (a.mono h)
end
def oR:Obj:=.cells #[] 0
structure tW (P:dL)(K R:Pr):Prop where
 inj:∀a b c,R.or K a b->R.or K a c->b=c
 inj':∀a b c,R.or K a c->R.or K b c->a=b
 low:∀a b,R a b->(a<P.globals.size↔b<P.globals.size)
 tb:∀g,Bc P.c g=true->R g g
structure Fresh (P:dL)(K R:Pr)(n n':Nat):Prop where
 l:∀b,¬R.or K n b
 r:∀a,¬R.or K a n'
 low:P.globals.size<=n/\P.globals.size<=n'
structure xZ (P:dL)(K R R':Pr):Prop where
 le:R.le R'
 ok:tW P K R->tW P K R'
variable {P:dL}
def xZ.refl (R:Pr):xZ P K R R:=⟨.refl R,id⟩
def xZ.trans {Pc:Pr}(h:xZ P K R R')(h':xZ P K R' Pc):xZ P K R Pc:=⟨h.le.trans h'.le,λx=>h'.ok (h.ok x)⟩
def xZ.add {n n':Nat}(f:Fresh P K R n n'):xZ P K R (R.add n n'):=by
 refine⟨Pr.le_add R n n',λh=>⟨?_,?_,?_,λg hg=>.inl (h.tb g hg)⟩⟩
 .rintro a b c ((x|⟨rfl,rfl⟩)|x) ((y|⟨e,rfl⟩)|y)
  .exact h.inj a b c (.inl x) (.inl y)
  .exact absurd (.inl (e▸x)) (f.l _)
  .exact h.inj a b c (.inl x) (.inr y)
  .exact absurd (.inl y) (f.l _)
  .rfl
  .exact absurd (.inr y) (f.l _)
  .exact h.inj a b c (.inr x) (.inl y)
  .exact absurd (.inr (e▸x)) (f.l _)
  .exact h.inj a b c (.inr x) (.inr y)
 .rintro a b c ((x|⟨rfl,rfl⟩)|x) ((y|⟨rfl,e⟩)|y)
  .exact h.inj' a b c (.inl x) (.inl y)
  .exact absurd (.inl (e▸x)) (f.r _)
  .exact h.inj' a b c (.inl x) (.inr y)
  .exact absurd (.inl y) (f.r _)
  .rfl
  .exact absurd (.inr y) (f.r _)
  .exact h.inj' a b c (.inr x) (.inl y)
  .exact absurd (.inr (e▸x)) (f.r _)
  .exact h.inj' a b c (.inr x) (.inr y)
 .rintro a b (x|⟨rfl,rfl⟩)
  .exact h.low a b x
  .have:=f.low;omega
def Zs:Halt->Prop
 | .panic _| .stuck _=>True
 | .unsupported (.initOrder _)=>False
 | .unsupported _=>True
 |_=>False
def Bp (w:aE):Prop:=∀(b:Nat) (c:Array aF) (e:aM),w.heap[b]?≠some (.pending c e)
def fE (P:dL){α:Type}(s:cU α):Prop:=∀w,Bp w->∃h w',s.run P.g w=.halt h w'/\Zs h
variable {α:Type}{w:aE}
def fE.no {s:cU α}(h:fE P s)(hw:Bp w)(x:α)(w':aE):s.run P.g w≠ .ok x w':=by
 obtain⟨_,_,e,_⟩:=h w hw;rw[e];simp
variable {β:Type}
def fE.bind {s:cU α}(h:fE P s)(f:α->cU β):fE P (s.bind f):=by
 intro w hw;obtain⟨y,w1,e,ht⟩:=h w hw;exact⟨y,w1,by rw[r9,e];rfl,ht⟩
def Io (P:dL)(S:aO->Prop)(K:Pr){α β:Type}(A:Pr->α->β->Prop):cU α->Pr->cU β->Prop
 | .pure a,R,s'=>∃b,s'=.pure b/\A R a b
 | .load m a k,R,s'=>m=.plain/\∃a' k',s'=.load .plain a' k'/\fW R a a'/\∀v v',VR S K R v v'->fE P (k v)\/Io P S K A (k v) R (k' v')
 | .store m a v k,R,s'=>m=.plain/\∃a' v' k',s'=.store .plain a' v' k'/\fW R a a'/\VR S K R v v'/\(fE P k\/Io P S K A k R k')
 | .new o k,R,s'=>∃o' k',s'=.new o' k'/\oH S K R o o'/\∀n n',Fresh P K R n n'->fE P (k n)\/Io P S K A (k n) (R.add n n') (k' n')
 | .shape r k,R,s'=>∃r' k',s'=.shape r' k'/\R r r'/\∀x,fE P (k x)\/Io P S K A (k x) R (k' x)
 | .freeze _ _ _,_,_=>False
 | .frozen a k,R,s'=>∃a' k',s'=.frozen a' k'/\∀x x',fE P (k x)\/Io P S K A (k x) R (k' x')
 | .getObj r k,R,s'=>∃r' k',s'=.getObj r' k'/\R.or K r r'/\∀o o',oH S K R o o'->fE P (k o)\/Io P S K A (k o) R (k' o')
 | .setObj r o k,R,s'=>∃r' o' k',s'=.setObj r' o' k'/\R.or K r r'/\oH S K R o o'/\(fE P k\/Io P S K A k R k')
 | .choose q k,R,s'=>∃k',s'=.choose q k'/\∀n,fE P (k n)\/Io P S K A (k n) R (k' n)
 | .sys _ _,_,_=>False
 | .program k,R,s'=>∃k',s'=.program k'/\(fE P (k P.g)\/Io P S K A (k P.g) R (k' P.c))
 | .mark m k,R,s'=>m=.noRoom/\∃k',s'=.mark .noRoom k'/\(fE P k\/Io P S K A k R k')
 | .halt _,_,_=>False
def aG (P:dL)(S:aO->Prop)(K:Pr){α β:Type}(A:Pr->α->β->Prop)(s:cU α)(R:Pr)(s':cU β):Prop:=fE P s\/Io P S K A s R s'
section
variable {P:dL}{S:aO->Prop}{K:Pr}{α β γ δ:Type}{A:Pr->α->β->Prop}{B:Pr->γ->δ->Prop}
def aG.pure {R:Pr}{a:α}{b:β}(h:A R a b):aG P S K A (.pure a) R (.pure b):=.inr ⟨b,rfl,h⟩
def fE.halt {h:Halt}(ht:Zs h):fE P (.halt h:cU α):=λw _=>⟨h,w,rfl,ht⟩
def aG.bind {s:cU α}:∀{R:Pr} {s':cU β} {f:α->cU γ} {f':β->cU δ},aG P S K A s R s'->(∀R',xZ P K R R'->∀a b,A R' a b->aG P S K B (f a) R' (f' b))->aG P S K B (s.bind f) R (s'.bind f'):=by
 induction s with
 |pure a=>
  rintro R s' f f' (hn|⟨b,rfl,h⟩) hf
  .exact .inl (hn.bind _)
  .exact hf R (.refl R) a b h
 |load m a k ih=>
  rintro R s' f f' (hn|⟨hm,a',k',rfl,ha,hk⟩) hf
  .exact .inl (hn.bind _)
  .exact .inr ⟨hm,a',_,rfl,ha,λv v' hv=>ih v (hk v v' hv) hf⟩
 |store m a v k ih=>
  rintro R s' f f' (hn|⟨hm,a',v',k',rfl,ha,hv,hk⟩) hf
  .exact .inl (hn.bind _)
  .exact .inr ⟨hm,a',v',_,rfl,ha,hv,ih hk hf⟩
 |new o k ih=>
  rintro R s' f f' (hn|⟨o',k',rfl,ho,hk⟩) hf
  .exact .inl (hn.bind _)
  .exact .inr ⟨o',_,rfl,ho,λn n' fQ=>ih n (hk n n' fQ) λR' hR a b h=>hf R' ((xZ.add fQ).trans hR) a b h⟩
 |shape r k ih=>
  rintro R s' f f' (hn|⟨r',k',rfl,hr,hk⟩) hf
  .exact .inl (hn.bind _)
  .exact .inr ⟨r',_,rfl,hr,λx=>ih x (hk x) hf⟩
 |freeze a n k ih=>
  rintro R s' f f' (hn|h) hf
  .exact .inl (hn.bind _)
  .exact h.elim
 |frozen a k ih=>
  rintro R s' f f' (hn|⟨r',k',rfl,hk⟩) hf
  .exact .inl (hn.bind _)
  .exact .inr ⟨r',_,rfl,λx x'=>ih x (hk x x') hf⟩
 |getObj r k ih=>
  rintro R s' f f' (hn|⟨r',k',rfl,hr,hk⟩) hf
  .exact .inl (hn.bind _)
  .exact .inr ⟨r',_,rfl,hr,λo o' ho=>ih o (hk o o' ho) hf⟩
 |setObj r o k ih=>
  rintro R s' f f' (hn|⟨r',o',k',rfl,hr,ho,hk⟩) hf
  .exact .inl (hn.bind _)
  .exact .inr ⟨r',o',_,rfl,hr,ho,ih hk hf⟩
 |choose q k ih=>
  rintro R s' f f' (hn|⟨k',rfl,hk⟩) hf
  .exact .inl (hn.bind _)
  .exact .inr ⟨_,rfl,λn=>ih n (hk n) hf⟩
 |sys c k ih=>
  rintro R s' f f' (hn|h) hf
  .exact .inl (hn.bind _)
  .exact h.elim
 |program k ih=>
  rintro R s' f f' (hn|⟨k',rfl,hk⟩) hf
  .exact .inl (hn.bind _)
  .exact .inr ⟨_,rfl,ih P.g hk hf⟩
 |mark m k ih=>
  rintro R s' f f' (hn|⟨rfl,k',rfl,hk⟩) hf
  .exact .inl (hn.bind _)
  .exact .inr ⟨rfl,_,rfl,ih hk hf⟩
 |halt h=>
  rintro R s' f f' (hn|hx) _
  .exact .inl (hn.bind _)
  .exact hx.elim
def aG.mono {A':Pr->α->β->Prop}{s:cU α}:∀{R:Pr} {s':cU β},aG P S K A s R s'->(∀R',xZ P K R R'->∀a b,A R' a b->A' R' a b)->aG P S K A' s R s':=by
 induction s with
 |pure a=>
  rintro R s' (hn|⟨b,rfl,h⟩) hf
  .exact .inl hn
  .exact .inr ⟨b,rfl,hf R (.refl R) a b h⟩
 |load m a k ih=>
  rintro R s' (hn|⟨hm,a',k',rfl,ha,hk⟩) hf
  .exact .inl hn
  .exact .inr ⟨hm,a',_,rfl,ha,λv v' hv=>ih v (hk v v' hv) hf⟩
 |store m a v k ih=>
  rintro R s' (hn|⟨hm,a',v',k',rfl,ha,hv,hk⟩) hf
  .exact .inl hn
  .exact .inr ⟨hm,a',v',_,rfl,ha,hv,ih hk hf⟩
 |new o k ih=>
  rintro R s' (hn|⟨o',k',rfl,ho,hk⟩) hf
  .exact .inl hn
  .exact .inr ⟨o',_,rfl,ho,λn n' fQ=>ih n (hk n n' fQ) λR' hR a b h=>hf R' ((xZ.add fQ).trans hR) a b h⟩
 |shape r k ih=>
  rintro R s' (hn|⟨r',k',rfl,hr,hk⟩) hf
  .exact .inl hn
  .exact .inr ⟨r',_,rfl,hr,λx=>ih x (hk x) hf⟩
 |freeze a n k ih=>
  rintro R s' (hn|h) hf
  .exact .inl hn
  .exact h.elim
 |frozen a k ih=>
  rintro R s' (hn|⟨r',k',rfl,hk⟩) hf
  .exact .inl hn
  .exact .inr ⟨r',_,rfl,λx x'=>ih x (hk x x') hf⟩
 |getObj r k ih=>
  rintro R s' (hn|⟨r',k',rfl,hr,hk⟩) hf
  .exact .inl hn
  .exact .inr ⟨r',_,rfl,hr,λo o' ho=>ih o (hk o o' ho) hf⟩
 |setObj r o k ih=>
  rintro R s' (hn|⟨r',o',k',rfl,hr,ho,hk⟩) hf
  .exact .inl hn
  .exact .inr ⟨r',o',_,rfl,hr,ho,ih hk hf⟩
 |choose q k ih=>
  rintro R s' (hn|⟨k',rfl,hk⟩) hf
  .exact .inl hn
  .exact .inr ⟨_,rfl,λn=>ih n (hk n) hf⟩
 |sys c k ih=>
  rintro R s' (hn|h) hf
  .exact .inl hn
  .exact h.elim
 |program k ih=>
  rintro R s' (hn|⟨k',rfl,hk⟩) hf
  .exact .inl hn
  .exact .inr ⟨_,rfl,ih P.g hk hf⟩
 |mark m k ih=>
  rintro R s' (hn|⟨rfl,k',rfl,hk⟩) hf
  .exact .inl hn
  .exact .inr ⟨rfl,_,rfl,ih hk hf⟩
 |halt h=>
  rintro R s' (hn|hx) _
  .exact .inl hn
  .exact hx.elim
end
structure cV (S:aO->Prop)(K R:Pr)(G:Gp)(St:Nat->Prop)(w W:aE):Prop where
 inj:∀a b c,R.or K a b->R.or K a c->b=c
 inj':∀a b c,R.or K a c->R.or K b c->a=b
 lt:∀a b,R.or K a b->a<w.heap.size/\b<W.heap.size
 low:∀a b,R a b->(a<G.n↔b<G.n)/\(a<G.n->a=b)
 gle:G.n<=w.heap.size/\G.n<=W.heap.size
 cont:∀a b,R a b->∃o o',w.heap[a]? =some o/\W.heap[b]? =some o'/\oH S K R o o'
 rest:∀a b,K a b->(∀c,¬R a c)->w.heap[a]? =some oR
 st:∀a,St a->(∃b,R a b)/\∃c T hi,w.heap[a]? =some (.cells c T (0,hi))/\c.size<=hi
 np:Bp w
 tb:∀g,G.tab g=true->R g g
def Tp (w W:aE):Prop:=∀n q,w.tape (w.drawn+n) q=W.tape (W.drawn+n) q
def Fy (e:Event):Option Nat:=match e.loc with| .cell a=>some a.block| .obj r=>some r|_=>none
def Ga (R:Pr)(St:Nat->Prop)(e:Event):Prop:=
 e=⟨.mark .noRoom,false,true⟩\/∃b a,Fy e=some b/\R a b/\(e.write=true->¬St a)
variable {St:Nat->Prop}
def Ga.mono (h:R.le R'){e:Event}(x:Ga R St e):Ga R' St e:=by
 rcases x with x|⟨b,a,h1,h2,h3⟩
 .exact .inl x
 .exact .inr ⟨b,a,h1,h _ _ h2,h3⟩
structure mV (S:aO->Prop)(K R:Pr)(G:Gp)(St:Nat->Prop)(w W:aE)(R':Pr)(w' W':aE):Prop where
 le:R.le R'
 old:∀a b,R a b->a<w.heap.size/\b<W.heap.size
 rel:cV S K R' G St w' W'
 tape:w'.tape=w.tape/\W'.tape=W.tape
 drawn:∃d,w'.drawn=w.drawn+d/\W'.drawn=W.drawn+d
 os:w'.os=w.os/\W'.os=W.os
 ou:w'.output=w.output/\W'.output=W.output
 size:w.heap.size<=w'.heap.size/\W.heap.size<=W'.heap.size
 new:∀a b,R' a b->R a b\/(w.heap.size<=a/\W.heap.size<=b)
 full:∀b,W.heap.size<=b->b<W'.heap.size->∃a,R' a b/\w.heap.size<=a
 keep:∀b,b<W.heap.size->(∀a,R a b->St a)->W'.heap[b]? =W.heap[b]?
 still:∀a,St a->w'.heap[a]? =w.heap[a]?
 keepG:∀a,a<w.heap.size->(∀b,¬R a b)->w'.heap[a]? =w.heap[a]?
section
variable {P:dL}{S:aO->Prop}{K R R' Pc:Pr}{G:Gp}{St:Nat->Prop}{w W w' W' Dy zvd:aE}
def cV.ltR (h:cV S K R G St w W):∀a b,R a b->a<w.heap.size/\b<W.heap.size:=λa b x=>h.lt a b (.inl x)
def mV.refl (h:cV S K R G St w W):mV S K R G St w W R w W:=
 ⟨.refl R,h.ltR,h,⟨rfl,rfl⟩,⟨0,rfl,rfl⟩,⟨rfl,rfl⟩,⟨rfl,rfl⟩,⟨aV _,aV _⟩,λ_ _ h=>.inl h,λb h1 h2=>absurd h2 aC,λ_ _ _=>rfl,λ_ _=>rfl,λ_ _ _=>rfl⟩
def mV.trans (h:mV S K R G St w W R' w' W')(h':mV S K R' G St w' W' Pc Dy zvd):mV S K R G St w W Pc Dy zvd:=by
 obtain⟨d,d1,d2⟩:=h.drawn;obtain⟨e,e1,e2⟩:=h'.drawn;have s1:=h.size;have s2:=h'.size;refine⟨h.le.trans h'.le,h.old,h'.rel,⟨h'.tape.1.trans h.tape.1,h'.tape.2.trans h.tape.2⟩,⟨d+e,aC,aC⟩,⟨h'.os.1.trans h.os.1,h'.os.2.trans h.os.2⟩,⟨h'.ou.1.trans h.ou.1,h'.ou.2.trans h.ou.2⟩,⟨aC,aC⟩,?_,?_,?_,?_,?_⟩
 .intro a b x
  rcases h'.new a b x with x|⟨x,y⟩
  .exact h.new a b x
  .exact .inr ⟨aC,aC⟩
 .intro b x y
  rcases mY b W'.heap.size with z|z
  .obtain⟨a,r,g⟩:=h.full b x z
   exact⟨a,h'.le a b r,g⟩
  .obtain⟨a,r,g⟩:=h'.full b z y
   exact⟨a,r,aC⟩
 .intro b x hk
  refine(h'.keep b aC λa r=>?_).trans (h.keep b x hk);rcases h.new a b r with r'|⟨_,r'⟩
  .exact hk a r'
  .omega
 .intro a x;exact(h'.still a x).trans (h.still a x)
 .intro a x y
  refine(h'.keepG a aC λb r=>?_).trans (h.keepG a x y);rcases h.new a b r with r'|⟨r',_⟩
  .exact y b r'
  .omega
end
section
variable {P:dL}{S:aO->Prop}{K R R':Pr}{G:Gp}{St:Nat->Prop}{w W w' W':aE}
def zpO:(Mode.plain==Mode.atomic)=false:=rfl
variable {o:tT}
def Z4 {w:aE}{a:Nat}(h:w.heap[a]? =some o):a<w.heap.size:=(dQ.1 h).1
variable {o':tT}
def oH.live {S:aO->Prop}{K R:Pr}(h:oH S K R o o'):∀c e,o≠ .pending c e:=by cases h<;>simp
def Bp.set {w:aE}(h:Bp w){a:Nat}(ho:∀c e,o≠ .pending c e):Bp {w with heap:=w.heap.setIfInBounds a o}:=by
 intro b c e;by_cases hb:a=b
 .subst hb
  rcases mY a w.heap.size with hl|hl
  .simp only[Lx hl,ne_eq,fY];exact ho c e
  .rw[Hj (by simpa using hl)];simp
 .simp only[jP hb];exact h b c e
def Bp.push {w:aE}(h:Bp w)(ho:∀c e,o≠ .pending c e):Bp {w with heap:=w.heap.push o}:=by
 intro b c e;simp only[Zl];split
 .simp only[ne_eq,fY];exact ho c e
 .exact h b c e
def mV.upd (h:cV S K R G St w W){a b:Nat}(r:R a b)(ns:¬St a)(ho:oH S K R o o'):
 mV S K R G St w W R {w with heap:=w.heap.setIfInBounds a o} {W with heap:=W.heap.setIfInBounds b o'}:=by
 obtain⟨l1,l2⟩:=h.ltR a b r;refine⟨.refl R,h.ltR,⟨h.inj,h.inj',λx y z=>by simpa using h.lt x y z,h.low,by simpa using h.gle,λx y z=>?_,λx y' hx nf=>?_,λx sx=>?_,Bp.set h.np ho.live,h.tb⟩,⟨rfl,rfl⟩,⟨0,rfl,rfl⟩,⟨rfl,rfl⟩,⟨rfl,rfl⟩,⟨aP,aP⟩,λ_ _ h=>.inl h,λx h1 h2=>absurd h2 qR,λx hx hk=>?_,λx sx=>?_,λx hx nf=>?_⟩
 .by_cases e:x=a
  .subst e
   have:=h.inj x y b (.inl z) (.inl r);subst this;exact⟨o,o',by simp[l1],by simp[l2],ho⟩
  .have e':y≠b:=λe'=>e (h.inj' x a b (.inl (e'▸z)) (.inl r))
   obtain⟨p,q,h1,h2,h3⟩:=h.cont x y z;exact⟨p,q,by simp[jP (Ne.symm e),h1],by simp[jP (Ne.symm e'),h2],h3⟩
 .have e:x≠a:=λe=>nf b (e▸r)
  have:=h.rest x _ hx nf;simp[jP (Ne.symm e),this]
 .have e:x≠a:=λe=>ns (e▸sx)
  obtain⟨fx,c,T,hi,h1,h2⟩:=h.st x sx;exact⟨fx,c,T,hi,by simp[jP (Ne.symm e),h1],h2⟩
 .have e:b≠x:=λe=>ns (hk a (e▸r))
  simp[jP e]
 .have e:x≠a:=λe=>ns (e▸sx)
  simp[jP (Ne.symm e)]
 .have e:x≠a:=λe=>nf b (e▸r)
  simp[jP (Ne.symm e)]
def Zy {w:aE}{b o:Nat}{c:Array aF}{T:aM}{fz:Nat×Nat}(h:w.heap[b]? =some (.cells c T fz))(v:aF):
 w.setCell ⟨b,o,none⟩ v={w with heap:=w.heap.setIfInBounds b (.cells (c.setIfInBounds o v) T fz)}:=by
 have hl:=Z4 h;have hb:w.heap[b]=.cells c T fz:=by simpa[mD hl] using h
 unfold znm;congr 1;apply Array.ext_getElem?;intro i;rw[ziO];by_cases e:b=i
 .subst e;simp[hl,hb]
 .rw[if_neg e,jP e]
def mV.push (h:cV S K R G St w W)(ho:oH S K R o o'):
 mV S K R G St w W (R.add w.heap.size W.heap.size) {w with heap:=w.heap.push o} {W with heap:=W.heap.push o'}:=by
 have l1:∀a b,R.or K a b->a≠w.heap.size:=λa b x e=>by have:=(h.lt a b x).1;omega
 have l2:∀a b,R.or K a b->b≠W.heap.size:=λa b x e=>by have:=(h.lt a b x).2;omega
 have g1:=h.gle;refine⟨Pr.le_add _ _ _,h.ltR,⟨?_,?_,?_,?_,qR,?_,?_,?_,Bp.push h.np ho.live,λg hg=>.inl (h.tb g hg)⟩,⟨rfl,rfl⟩,⟨0,rfl,rfl⟩,⟨rfl,rfl⟩,⟨rfl,rfl⟩,⟨aP,aP⟩,?_,?_,?_,?_,?_⟩
 .rintro a b c ((x|⟨rfl,rfl⟩)|x) ((y|⟨e,rfl⟩)|y)
  .exact h.inj a b c (.inl x) (.inl y)
  .exact absurd e (l1 _ _ (.inl x))
  .exact h.inj a b c (.inl x) (.inr y)
  .exact absurd rfl (l1 _ _ (.inl y))
  .rfl
  .exact absurd rfl (l1 _ _ (.inr y))
  .exact h.inj a b c (.inr x) (.inl y)
  .exact absurd e (l1 _ _ (.inr x))
  .exact h.inj a b c (.inr x) (.inr y)
 .rintro a b c ((x|⟨rfl,rfl⟩)|x) ((y|⟨rfl,e⟩)|y)
  .exact h.inj' a b c (.inl x) (.inl y)
  .exact absurd e (l2 _ _ (.inl x))
  .exact h.inj' a b c (.inl x) (.inr y)
  .exact absurd rfl (l2 _ _ (.inl y))
  .rfl
  .exact absurd rfl (l2 _ _ (.inr y))
  .exact h.inj' a b c (.inr x) (.inl y)
  .exact absurd e (l2 _ _ (.inr x))
  .exact h.inj' a b c (.inr x) (.inr y)
 .rintro a b ((x|⟨rfl,rfl⟩)|x)
  .have:=h.lt a b (.inl x);simp;omega
  .simp
  .have:=h.lt a b (.inr x);simp;omega
 .rintro a b (x|⟨rfl,rfl⟩)
  .exact h.low a b x
  .exact⟨aC,λz=>by omega⟩
 .rintro a b (x|⟨rfl,rfl⟩)
  .obtain⟨p,q,h1,h2,h3⟩:=h.cont a b x
   exact⟨p,q,by rw[Ue (Z4 h1)];rw[<-h1,mD],by rw[Ue (Z4 h2)];rw[<-h2,mD],h3.mono (Pr.le_add _ _ _)⟩
  .exact⟨o,o',aP,aP,ho.mono (Pr.le_add _ _ _)⟩
 .intro a b' ha nf
  have e:a≠w.heap.size:=λe=>nf _ (.inr ⟨e,rfl⟩);have hl:=(h.lt a b' (.inr ha)).1;have:=h.rest a b' ha (λb f=>nf b (.inl f));rw[Ue hl,<-this,mD]
 .intro a sa
  obtain⟨⟨b,fa⟩,c,T,hi,h1,h2⟩:=h.st a sa;exact⟨⟨b,.inl fa⟩,c,T,hi,by rw[Ue (Z4 h1),<-h1,mD],h2⟩
 .rintro a b (x|⟨rfl,rfl⟩)
  .exact .inl x
  .exact .inr ⟨aV _,aV _⟩
 .intro b x y
  simp only[Array.size_push] at y;obtain rfl:b=W.heap.size:=aC;exact⟨_,.inr ⟨rfl,rfl⟩,aV _⟩
 .intro b hb _
  rw[Ue hb,mD]
 .intro a sa
  obtain⟨fa,c,T,hi,h1,h2⟩:=h.st a sa;rw[Ue (Z4 h1),mD]
 .intro a ha _
  rw[Ue ha,mD]
def mV.draw (h:cV S K R G St w W):mV S K R G St w W R {w with drawn:=w.drawn+1} {W with drawn:=W.drawn+1}:=
 ⟨.refl R,h.ltR,⟨h.inj,h.inj',h.lt,h.low,h.gle,h.cont,h.rest,h.st,h.np,h.tb⟩,⟨rfl,rfl⟩,⟨1,rfl,rfl⟩,⟨rfl,rfl⟩,⟨rfl,rfl⟩,⟨aV _,aV _⟩,λ_ _ h=>.inl h,λb h1 h2=>absurd h2 qR,λ_ _ _=>rfl,λ_ _=>rfl,λ_ _ _=>rfl⟩
def Tp.step (h:Tp w W)(s:mV S K R G St w W R' w' W'):Tp w' W':=by
 obtain⟨d,d1,d2⟩:=s.drawn;intro n q;rw[s.tape.1,s.tape.2,d1,d2,Zz,Zz];exact h (d+n) q
end
def zL (P:dL)(S:aO->Prop)(K:Pr){α β:Type}(A:Pr->α->β->Prop)(R:Pr)(G:Gp)(St:Nat->Prop)(w W:aE)(s':cU β)(x:α)(w':aE):Prop:=
 ∃R' x' W' ev,s'.run P.c W=.ok x' W'/\A R' x x'/\mV S K R G St w W R' w' W'/\(∀es,s'.events P.c W es=es++ev)/\∀e∈ev,Ga R' St e
variable {S:aO->Prop}{W w':aE}{e₁:Array Event}
def zL.after {A:Pr->α->β->Prop}{zhY:Pr}{G:Gp}{aI aX:aE}{s' s₁':cU β}{x:α}
 (wI:mV S K R G St w W zhY aI aX) (hr:s'.run P.c W=s₁'.run P.c aX) (he:∀es,s'.events P.c W es=s₁'.events P.c aX (es++e₁)) (bV:∀e∈e₁,Ga zhY St e) (h:zL P S K A zhY G St aI aX s₁' x w'):zL P S K A R G St w W s' x w':=by
 obtain⟨R',x',W',ev,a,b,c,d,e⟩:=h;refine⟨R',x',W',e₁++ev,hr.trans a,b,wI.trans c,λes=>by rw[he,d,Array.append_assoc],λy hy=>?_⟩;rcases Array.mem_append.1 hy with hy|hy
 .exact(bV y hy).mono c.le
 .exact e y hy
def oH.shape {G:Gp}(h:cV S K R G St w W){r r':Nat}(x:R r r'):W.shape? r'=w.shape? r:=by
 obtain⟨o,o',h1,h2,h3⟩:=h.cont r r' x;unfold zci;rw[h1,h2]
 cases h3 with
 |cells hc _=>simp[hc.1]
 |_=>rfl
def cV.orR {G:Gp}(h:cV S K R G St w W){a b:Nat}(x:R.or K a b):R a b\/w.heap[a]? =some oR:=by
 by_cases e:∃c,R a c
 .obtain⟨c,e⟩:=e
  exact .inl (h.inj a b c x (.inl e)▸e)
 .exact .inr (h.rest a b (x.resolve_left λy=>e ⟨b,y⟩) (λc y=>e ⟨c,y⟩))
def aG.run {A:Pr->α->β->Prop}{G:Gp}(hG:G=P.gp){x:α}(s:cU α):
 ∀{R:Pr} {w W:aE} {s':cU β},aG P S K A s R s'->cV S K R G St w W->Tp w W->s.run P.g w=.ok x w'->zL P S K A R G St w W s' x w':=by
 induction s with
 |pure a=>
  rintro R w W s' (hn|⟨b,rfl,h⟩) hw ht hr
  .exact absurd hr (hn.no hw.np _ _)
  simp only[bD,Result.ok.injEq] at hr;obtain⟨rfl,rfl⟩:=hr;exact⟨R,b,W,#[],rfl,h,.refl hw,λes=>by unfold vV;rw[y7];simp,λe he=>by simp at he⟩
 |load m a k ih=>
  rintro R w W s' (hn|⟨rfl,a',k',rfl,ha,hk⟩) hw ht hr
  .exact absurd hr (hn.no hw.np _ _)
  obtain⟨qJ⟩:=ha;rename_i b b' o sp
  .obtain⟨ob,xV,h1,h2,h3⟩:=hw.cont b b' qJ
   cases h3 with
   |cells hc hz=>
    rename_i c c' T fz Jf
    cases sp with
    |some sp=>simp[bD,lF,h1,yD,rJ] at hr
    |none=>
     cases hv:c[o]? with
     |none=>simp[bD,lF,h1,yD,rJ,hv] at hr
     |some v=>
      obtain⟨v',J2,qF⟩:=hc.get hv;have e1:w.cell? ⟨b,o,none⟩=some v:=by simp[lF,h1,hv]
      have e2:W.cell? ⟨b',o,none⟩=some v':=by simp[lF,h2,J2]
      rw[bD,e1] at hr;refine zL.after (e₁:=#[⟨.cell ⟨b',o,none⟩,false,false⟩]) (.refl hw) (by rw[bD,e2]) (λes=>by unfold vV;rw[y7,e2];simp[zpO]) ?_ (ih v (hk v v' qF) hw ht hr);intro e he;simp at he;subst he;exact .inr ⟨b',b,rfl,qJ,aP⟩
   |map x=>simp[bD,lF,h1,yD,rJ] at hr
   |chan x=>simp[bD,lF,h1,yD,rJ] at hr
   |stringIter x y=>simp[bD,lF,h1,yD,rJ] at hr
   |mapIter x=>simp[bD,lF,h1,yD,rJ] at hr
   |number x=>simp[bD,lF,h1,yD,rJ] at hr
 |store m a v k ih=>
  rintro R w W s' (hn|⟨rfl,a',v',k',rfl,ha,hv,hk⟩) hw ht hr
  .exact absurd hr (hn.no hw.np _ _)
  obtain⟨qJ⟩:=ha;rename_i b b' o sp;have Mn:∀cs,v≠ .agg cs:=by rintro cs rfl;simp[bD] at hr
  have Bg:∀cs,v≠ .tuple cs:=by rintro cs rfl;simp[bD] at hr
  have zvq:∀cs,v'≠ .agg cs:=by rintro cs rfl;cases hv<;>first|exact Mn _ rfl|exact Bg _ rfl|(rename_i hh;exact hh.elim)
  have zpD:∀cs,v'≠ .tuple cs:=by rintro cs rfl;cases hv<;>first|exact Bg _ rfl|(rename_i hh;exact hh.elim)
  rw[bD] at hr
  rotate_left
  .exact λcs=>Mn cs
  .exact λcs=>Bg cs
  .obtain⟨ob,xV,h1,h2,h3⟩:=hw.cont b b' qJ
   cases h3 with
   |cells hc hz=>
    rename_i c c' T fz Jf
    cases sp with
    |some sp=>simp[lF,h1,Dc,rJ] at hr
    |none=>
     cases fI:c[o]? with
     |none=>simp[lF,h1,Dc,rJ,fI] at hr
     |some v0=>
      obtain⟨zEu,zf1,_⟩:=hc.get fI;have e1:w.cell? ⟨b,o,none⟩=some v0:=by simp[lF,h1,fI]
      have e2:W.cell? ⟨b',o,none⟩=some zEu:=by simp[lF,h2,zf1]
      rw[e1] at hr;simp only at hr
      cases mR:w.frozen? ⟨b,o,none⟩ with
      |true=>rw[mR] at hr;simp at hr
      |false=>
       rw[mR] at hr;simp only[jE,if_false] at hr;have Xg:¬Ln fz o:=by
        intro⟨z1,z2⟩;simp[S8,h1,z1,z2] at mR
       have zO:¬St b:=by
        intro hs;obtain⟨_,c2,T2,hi,g1,g2⟩:=hw.st b hs;rw[h1] at g1;injection g1 with g1;injection g1 with g1 _ g3;subst g1 g3;exact Xg ⟨jO _,lE (dQ.1 fI).1 g2⟩
       have zsw:W.frozen? ⟨b',o,none⟩=false:=by
        simp only[S8,h2]
        cases hq:(decide (Jf.1<=o)&&decide (o<Jf.2)) with
        |false=>rfl
        |true=>simp at hq;exact absurd (hz o hq) Xg
       rw[Zy h1] at hr;refine zL.after (e₁:=#[⟨.cell ⟨b',o,none⟩,true,false⟩]) (mV.upd hw qJ zO (.cells (hc.set o hv) hz)) (s₁':=k') ?_ ?_ ?_ (ih hk (mV.upd hw qJ zO (.cells (hc.set o hv) hz)).rel (ht.step (mV.upd hw qJ zO (.cells (hc.set o hv) hz))) hr)
       .rw[bD]
        rotate_left
        .exact λcs=>zvq cs
        .exact λcs=>zpD cs
        rw[e2];simp only[zsw,jE,if_false];rw[Zy h2]
       .intro es
        unfold vV;rw[y7]
        rotate_left
        .exact λcs=>zvq cs
        .exact λcs=>zpD cs
        rw[e2];simp only[zsw,jE,if_false];rw[Zy h2];simp[zpO]
       .intro e he
        simp at he;subst he;exact .inr ⟨b',b,rfl,qJ,λ_=>zO⟩
   |map x=>simp[lF,h1,Dc,rJ] at hr
   |chan x=>simp[lF,h1,Dc,rJ] at hr
   |stringIter x y=>simp[lF,h1,Dc,rJ] at hr
   |mapIter x=>simp[lF,h1,Dc,rJ] at hr
   |number x=>simp[lF,h1,Dc,rJ] at hr
 |new o k ih=>
  rintro R w W s' (hn|⟨o',k',rfl,ho,hk⟩) hw ht hr
  .exact absurd hr (hn.no hw.np _ _)
  rw[bD] at hr;exact zL.after (e₁:=#[]) (mV.push hw ho) Nd (λes=>by unfold vV;rw[y7];simp) (λe he=>by simp at he) (ih _ (hk _ _ ⟨λb hb=>absurd (hw.lt _ _ hb).1 (Bt _),λa ha=>absurd (hw.lt _ _ ha).2 (Bt _),by subst hG;exact hw.gle⟩) (mV.push hw ho).rel (ht.step (mV.push hw ho)) hr)
 |shape r k ih=>
  rintro R w W s' (hn|⟨r',k',rfl,tG,hk⟩) hw ht hr
  .exact absurd hr (hn.no hw.np _ _)
  rw[bD] at hr;exact zL.after (e₁:=#[]) (.refl hw) (by rw[bD,oH.shape hw tG]) (λes=>by unfold vV;rw[y7,oH.shape hw tG];simp) (λe he=>by simp at he) (ih _ (hk _) hw ht hr)
 |freeze a n k ih=>
  rintro R w W s' (hn|h) hw ht hr
  .exact absurd hr (hn.no hw.np _ _)
  .exact h.elim
 |frozen a k ih=>
  rintro R w W s' (hn|⟨r',k',rfl,hk⟩) hw ht hr
  .exact absurd hr (hn.no hw.np _ _)
  rw[bD] at hr;exact zL.after (e₁:=#[]) (.refl hw) Nd (λes=>by unfold vV;rw[y7];simp) (λe he=>by simp at he) (ih _ (hk _ _) hw ht hr)
 |getObj r k ih=>
  rintro R w W s' (hn|⟨r',k',rfl,tG,hk⟩) hw ht hr
  .exact absurd hr (hn.no hw.np _ _)
  rw[bD] at hr
  .replace tG:R r r':=by
    rcases hw.orR tG with x|x
    .exact x
    .rw[x] at hr;simp[oR] at hr
   obtain⟨ob,xV,h1,h2,h3⟩:=hw.cont r r' tG;rw[h1] at hr;have go:(∀c T fz,ob≠ .cells c T fz)->(∀c T fz,xV≠ .cells c T fz)->zL P S K A R G St w W (.getObj r' k') x w':=by
    intro n1 n2;refine zL.after (e₁:=#[⟨.obj r',false,xV.isChan⟩]) (.refl hw) (s₁':=k' xV) ?_ ?_ ?_ (ih ob (hk _ _ h3) hw ht ?_)
    .rw[bD,h2];cases xV<;>first|rfl|exact absurd rfl (n2 _ _ _)
    .intro es;unfold vV;rw[y7,h2];cases xV<;>first|(simp;done)|exact absurd rfl (n2 _ _ _)
    .intro e he
     simp at he;subst he;exact .inr ⟨r',r,rfl,tG,aP⟩
    .cases ob<;>first|exact hr|exact absurd rfl (n1 _ _ _)
   cases h3 with
   |cells hc hz=>simp at hr
   |map x=>exact go aP aP
   |chan x=>exact go aP aP
   |stringIter x y=>exact go aP aP
   |mapIter x=>exact go aP aP
   |number x=>exact go aP aP
 |setObj r o k ih=>
  rintro R w W s' (hn|⟨r',o',k',rfl,tG,ho,hk⟩) hw ht hr
  .exact absurd hr (hn.no hw.np _ _)
  rw[bD] at hr
  .replace tG:R r r':=by
    rcases hw.orR tG with x|x
    .exact x
    .rw[x] at hr;simp[oR] at hr
   obtain⟨ob,xV,h1,h2,h3⟩:=hw.cont r r' tG;rw[h1] at hr;have go:(∀c T fz,ob≠ .cells c T fz)->(∀c T fz,xV≠ .cells c T fz)->zL P S K A R G St w W (.setObj r' o' k') x w':=by
    intro n1 n2;have zO:¬St r:=by
     intro hs;obtain⟨_,c2,T2,hi,g1,g2⟩:=hw.st r hs;rw[h1] at g1;injection g1 with g1;exact n1 _ _ _ g1
    refine zL.after (e₁:=#[⟨.obj r',true,o'.isChan⟩]) (mV.upd hw tG zO ho) (s₁':=k') ?_ ?_ ?_ (ih hk (mV.upd hw tG zO ho).rel (ht.step (mV.upd hw tG zO ho)) ?_)
    .rw[bD,h2];cases xV<;>first|rfl|exact absurd rfl (n2 _ _ _)
    .intro es;unfold vV;rw[y7,h2];cases xV<;>first|(simp;done)|exact absurd rfl (n2 _ _ _)
    .intro e he
     simp at he;subst he;exact .inr ⟨r',r,rfl,tG,λ_=>zO⟩
    .cases ob<;>first|exact hr|exact absurd rfl (n1 _ _ _)
   cases h3 with
   |cells hc hz=>simp at hr
   |map x=>exact go aP aP
   |chan x=>exact go aP aP
   |stringIter x y=>exact go aP aP
   |mapIter x=>exact go aP aP
   |number x=>exact go aP aP
 |choose q k ih=>
  rintro R w W s' (hn|⟨k',rfl,hk⟩) hw ht hr
  .exact absurd hr (hn.no hw.np _ _)
  rw[bD] at hr
  cases hq:q.forced with
  |true=>
   rw[hq] at hr;simp only[if_true] at hr;exact zL.after (e₁:=#[]) (.refl hw) (by rw[bD,hq];simp) (λes=>by unfold vV;rw[y7,hq];simp) (λe he=>by simp at he) (ih 0 (hk 0) hw ht hr)
  |false=>
   rw[hq] at hr;simp only[jE,if_false] at hr;have ea:w.tape w.drawn q=W.tape W.drawn q:=ht 0 q;rw[ea] at hr;exact zL.after (e₁:=#[]) (mV.draw hw) (by rw[bD,hq];simp) (λes=>by unfold vV;rw[y7,hq];simp) (λe he=>by simp at he) (ih _ (hk _) (mV.draw hw).rel (ht.step (mV.draw hw)) hr)
 |sys c k ih=>
  rintro R w W s' (hn|h) hw ht hr
  .exact absurd hr (hn.no hw.np _ _)
  .exact h.elim
 |program k ih=>
  rintro R w W s' (hn|⟨k',rfl,hk⟩) hw ht hr
  .exact absurd hr (hn.no hw.np _ _)
  rw[bD] at hr;exact zL.after (e₁:=#[]) (.refl hw) Nd (λes=>by unfold vV;rw[y7];simp) (λe he=>by simp at he) (ih _ hk hw ht hr)
 |mark m k ih=>
  rintro R w W s' (hn|⟨rfl,k',rfl,hk⟩) hw ht hr
  .exact absurd hr (hn.no hw.np _ _)
  .rw[bD] at hr
   exact zL.after (e₁:=#[⟨.mark .noRoom,false,true⟩]) (.refl hw) Nd (λes=>by unfold vV;rw[y7];simp) (λe he=>by simp at he;exact .inl he) (ih hk hw ht hr)
 |halt h=>rintro R w W s' _ hw ht hr;simp[bD] at hr
section
variable {P:dL}{S:aO->Prop}{K:Pr}{α β γ δ:Type}{R:Pr}
abbrev lQ {α:Type}:Pr->α->α->Prop:=λ_ a b=>a=b
abbrev VA (S:aO->Prop)(K:Pr):Pr->aF->aF->Prop:=λR v v'=>VR S K R v v'
def aG.bnd {A:Pr->α->β->Prop}{B:Pr->γ->δ->Prop}{s:cU α}{s':cU β}{f:α->cU γ}{f':β->cU δ}(h:aG P S K A s R s')(hf:∀R',xZ P K R R'->∀a b,A R' a b->aG P S K B (f a) R' (f' b)):
 aG P S K B (s>>=f) R (s'>>=f'):=aG.bind h hf
def aG.ret {A:Pr->α->β->Prop}{a:α}{b:β}(h:A R a b):aG P S K A (kW a:cU α) R (kW b:cU β):=aG.pure h
def bN {Uw:String}:fE P (stuck Uw:cU α):=fE.halt trivial
variable {u:Unsupported}
def lG (hu:Zs (.unsupported u):=by trivial):fE P (unsupported u:cU α):=fE.halt hu
variable {v:aF}
def zg1 :fE P (goPanic v:cU α):=fE.halt trivial
def fE.bnd {s:cU α}(h:fE P s)(f:α->cU β):fE P (s>>=f):=h.bind f
def nG (P:dL)(s:cU α):Prop:=∀w,Bp w->(∃a w',s.run P.g w=.ok a w'/\Bp w')\/∃h w',s.run P.g w=.halt h w'/\Zs h
def nG.never {s:cU α}(h:fE P s):nG P s:=λw hw=>.inr (h w hw)
def nG.ret (a:α):nG P (kW a:cU α):=λw hw=>.inl ⟨a,w,rfl,hw⟩
def nG.bnd {s:cU α}{f:α->cU β}(h:nG P s)(hf:∀a,nG P (f a)):nG P (s>>=f):=by
 intro w hw;have e:(s>>=f).run P.g w=_:=r9 P.g s f w;rcases h w hw with⟨a,w',h1,h2⟩|⟨y,w',h1,h2⟩
 .rcases hf a w' h2 with⟨b,w2,h3,h4⟩|⟨y,w2,h3,h4⟩
  .exact .inl ⟨b,w2,by rw[e,h1];exact h3,h4⟩
  .exact .inr ⟨y,w2,by rw[e,h1];exact h3,h4⟩
 .exact .inr ⟨y,w',by rw[e,h1];rfl,h2⟩
def zlm:nG P program:=λw hw=>.inl ⟨P.g,w,rfl,hw⟩
def zky (q:Question):nG P (choose q):=λw hw=>by
 unfold choose bD;split
 .exact .inl ⟨0,w,rfl,hw⟩
 .exact .inl ⟨_,_,rfl,hw⟩
def zDc (r:Nat):nG P (shape r):=λw hw=>.inl ⟨_,w,rfl,hw⟩
variable {o:tT}
def zHi (ho:∀c e,o≠ .pending c e):nG P (newObj o):=λw hw=>.inl ⟨_,_,rfl,Bp.push hw ho⟩
def zE1 (t:aM):nG P (underlying t):=by
 unfold underlying;refine zlm.bnd λp=>?_;split
 .exact nG.ret _
 .exact .never bN
def zJc (t:aM)(v:aF):nG P (newVar t v):=by
 unfold newVar newRow;exact(zHi aP).bnd λ_=>nG.ret _
def zz7 (t:aM):nG P (elemOf t):=by
 unfold elemOf;refine(zE1 t).bnd λd=>?_;split
 .exact nG.ret _
 .exact .never bN
def zGu (a:bL):nG P (frozen a):=λw hw=>.inl ⟨_,w,rfl,hw⟩
def zzV (m:Mark):nG P (mark m):=λw hw=>.inl ⟨_,w,rfl,hw⟩
def zod (a:bL)(n:Nat):nG P (zhU a n):=by
 unfold zhU;refine(zDc _).bnd λx=>?_;split<;>exact nG.ret _
def zyC (size zai n:Nat)(base:Option bL)(x:aF):nG P (zot size zai n base x):=by
 unfold zot;have tail:∀b:Bool,nG P (match x with
  | .slice (some b) _ _=>do pure (!(<-zhU b (n*size))||base.any (·.block==b.block))
  |_=>pure false:cU Bool):=λ_=>by
  split
  .exact(zod _ _).bnd λ_=>nG.ret _
  .exact nG.ret _
 cases base with
 |none=>
  refine(nG.ret true).bnd λthere=>?_;cases there
  .exact nG.ret _
  .exact tail true
 |some a=>
  refine(zod _ _).bnd λh1=>(zGu _).bnd λh2=>?_;refine(nG.ret _).bnd λthere=>?_;cases there
  .exact nG.ret _
  .exact tail true
def fE.then {s:cU α}{f:α->cU β}(hs:nG P s)(h:∀a,fE P (f a)):fE P (s>>=f):=by
 intro w hw;have e:(s>>=f).run P.g w=_:=r9 P.g s f w;rcases hs w hw with⟨a,w',h1,h2⟩|⟨y,w',h1,h2⟩
 .obtain⟨y,w2,h3,h4⟩:=h a w' h2
  exact⟨y,w2,by rw[e,h1];exact h3,h4⟩
 .exact⟨y,w',by rw[e,h1];rfl,h2⟩
variable {e:RuntimeError}
def vE :fE P (runtimePanic e:cU α):=by
 unfold runtimePanic;refine fE.then zlm λp=>?_;cases e<;>first|exact zg1|(refine fE.then (zz7 _) λ_=>?_;refine fE.then (zJc _ _) λ_=>?_;exact zg1)
def Zj {k:D4}{x y:Int}{c:zmj}:fE P (boundsPanic k x y c:cU α):=by
 unfold boundsPanic;simp only;split
 .refine fE.then ?_ λ_=>vE
  exact(zky _).bnd λ_=>nG.ret _
 .exact fE.then (nG.ret _) λ_=>vE
def Tw:aG P S K (λ_ a b=>a=P.g/\b=P.c) program R program:=.inr ⟨_,rfl,.inr ⟨P.c,rfl,rfl,rfl⟩⟩
def zgs (q:Question):aG P S K lQ (choose q) R (choose q):=.inr ⟨_,rfl,λn=>.inr ⟨n,rfl,rfl⟩⟩
def l7 (t:aM):aG P S K (λ_ a b=>a=b/\P.underlying t=some a) (underlying t) R (underlying t):=by
 unfold underlying;refine aG.bnd Tw ?_;rintro R' _ a b ⟨ha,hb⟩;rw[ha,hb,P.underlying_g]
 cases h:P.c.underlying t with
 |some d=>exact aG.ret ⟨rfl,h⟩
 |none=>exact .inl bN
def Fi (t:aM):aG P S K (λ_ a b=>a=b/\P.info? t=some a) (typeInfo t) R (typeInfo t):=by
 unfold typeInfo;refine aG.bnd Tw ?_;rintro R' _ a b ⟨ha,hb⟩;rw[ha,hb,P.info_g]
 cases h:P.c.info? t with
 |some d=>exact aG.ret ⟨rfl,h⟩
 |none=>exact .inl bN
def H7 (P:dL)(S:aO->Prop):Prop:=∀(K R:Pr) t i z,P.info? t=some i->i.zero=some z->VR S K R z z
def O0 (hz:H7 P S)(t:aM):aG P S K (VA S K) (zeroValue t) R (zeroValue t):=by
 unfold zeroValue;refine aG.bnd (Fi t) ?_;rintro R' _ a b ⟨rfl,h⟩
 cases h2:a.zero with
 |some z=>exact aG.ret (hz K R' t a z h h2)
 |none=>exact .inl lG
def Aw (t:aM):aG P S K lQ (sizeOf t) R (sizeOf t):=by
 unfold sizeOf;refine aG.bnd (Fi t) ?_;rintro R' _ a b ⟨rfl,h⟩;exact aG.ret rfl
def zob (t:aM):aG P S K lQ (isAgg t) R (isAgg t):=by
 unfold isAgg;refine aG.bnd (l7 t) ?_;rintro R' _ a b ⟨rfl,h⟩;cases a<;>exact aG.ret rfl
variable {v':aF}
def zgm (h:VR S K R v v'):aG P S K lQ (asIntOf v) R (asIntOf v'):=by
 cases h with
 |int k n=>exact aG.ret rfl
 |pointer x=>cases x<;>first|exact .inl lG|exact .inl bN
 |_=>exact .inl bN
def Wm (h:VR S K R v v'):aG P S K lQ (asInt v) R (asInt v'):=by
 unfold asInt;refine aG.bnd (zgm h) ?_;rintro R' _ a b rfl;exact aG.ret rfl
def zET (h:VR S K R v v'):aG P S K lQ (asBool v) R (asBool v'):=by
 cases h with
 |bool b=>exact aG.ret rfl
 |_=>exact .inl bN
def zxT (h:VR S K R v v'):aG P S K (λR a b=>fW R a b) (asAddr v) R (asAddr v'):=by
 cases h with
 |pointer x=>
  cases x with
  |none=>exact .inl (by unfold asAddr;exact vE)
  |some x=>exact aG.ret x
 |_=>exact .inl bN
def zcE (h:VR S K R v v'):aG P S K (λR a b=>fW R a b) (zoJ v) R (zoJ v'):=by
 cases h with
 |pointer x=>
  cases x with
  |none=>exact .inl bN
  |some x=>exact aG.ret x
 |_=>exact .inl bN
variable {a a':bL}
def zqC (h:fW R a a'):aG P S K (VA S K) (load a) R (load a'):=.inr ⟨rfl,a',_,rfl,h,λv v' hv=>.inr ⟨v',rfl,hv⟩⟩
def zyz (h:fW R a a')(hv:VR S K R v v'):aG P S K lQ (store a v) R (store a' v'):=.inr ⟨rfl,a',v',_,rfl,h,hv,.inr ⟨(),rfl,rfl⟩⟩
variable {o':tT}
def zdw (h:oH S K R o o'):aG P S K (λR a b=>R a b) (newObj o) R (newObj o'):=.inr ⟨o',_,rfl,h,λn n' _=>.inr ⟨n',rfl,.inr ⟨rfl,rfl⟩⟩⟩
variable {r r':Nat}
def zaA (h:R r r'):aG P S K lQ (shape r) R (shape r'):=.inr ⟨r',_,rfl,h,λx=>.inr ⟨x,rfl,rfl⟩⟩
def Rw (h:R r r'):aG P S K (λR o o'=>oH S K R o o') (getObj r) R (getObj r'):=.inr ⟨r',_,rfl,.inl h,λo o' ho=>.inr ⟨o',rfl,ho⟩⟩
def zbL (h:R r r')(ho:oH S K R o o'):aG P S K lQ (setObj r o) R (setObj r' o'):=.inr ⟨r',o',_,rfl,.inl h,ho,.inr ⟨(),rfl,rfl⟩⟩
def zxR (h:R.or K r r'):aG P S K (λR o o'=>oH S K R o o') (getObj r) R (getObj r'):=.inr ⟨r',_,rfl,h,λo o' ho=>.inr ⟨o',rfl,ho⟩⟩
def zki (n:Nat):aG P S K lQ (askRoom n) R (askRoom n):=by
 unfold askRoom;split
 .exact .inr ⟨rfl,_,rfl,.inr ⟨(),rfl,rfl⟩⟩
 .exact aG.ret rfl
def fW.add (h:fW R a a')(n:Nat):fW R (a.add n) (a'.add n):=by
 cases h with
 |mk h=>unfold ze1;split<;>exact .mk h
def wP.map {a a':Option bL}(h:wP R a a')(n:Nat):wP R (a.map (·.add n)) (a'.map (·.add n)):=by
 cases h with
 |none=>exact .none
 |some h=>exact .some (h.add n)
def zxL :∀(n i:Nat) {R:Pr} {acc zgO:Array aF},fW R a a'->bK S K R acc zgO->aG P S K (λR x y=>bK S K R x y) (loadCellsFrom a i n acc) R (loadCellsFrom a' i n zgO)
 |0,i,R,acc,zgO,h,hc=>aG.ret hc
 |n+1,i,R,acc,zgO,h,hc=>by
  unfold loadCellsFrom;refine aG.bnd (zqC (h.add i)) ?_;intro R' hR v v' hv;exact zxL n (i+1) (h.mono hR.le) ((hc.mono hR.le).push hv)
def zkE (h:fW R a a')(n:Nat):aG P S K (λR x y=>bK S K R x y) (loadCells a n) R (loadCells a' n):=zxL n 0 h bK.empty
def xN (S:aO->Prop)(K R:Pr)(xs bX:List aF):Prop:=xs.length=bX.length/\∀(i:Nat) (v v':aF),xs[i]? =some v->bX[i]? =some v'->VR S K R v v'
def bK.toList {xs bX:Array aF}(h:bK S K R xs bX):xN S K R xs.toList bX.toList:=⟨by simpa using h.1,λi v v' h1 h2=>h.2 i v v' Ua Sg⟩
variable {xs bX:List aF}
def xN.mono {R':Pr}(hR:R.le R')(h:xN S K R xs bX):xN S K R' xs bX:=⟨h.1,λi v v' h1 h2=>(h.2 i v v' h1 h2).mono hR⟩
def xN.cons {x x':aF}(h:xN S K R (x::xs) (x'::bX)):VR S K R x x'/\xN S K R xs bX:=
 ⟨h.2 0 x x' rfl rfl,by simpa using h.1,λi v v' h1 h2=>h.2 (i+1) v v' Ua Sg⟩
def Y2 :∀(vs zeZ:List aF) (i:Nat) {R:Pr},fW R a a'->xN S K R vs zeZ->aG P S K lQ (storeCells a vs i) R (storeCells a' zeZ i)
 |[],[],i,R,h,hv=>aG.ret rfl
 |[],_::_,i,R,h,hv=>by have:=hv.1;simp at this
 |_::_,[],i,R,h,hv=>by have:=hv.1;simp at this
 |v::vs,v'::zeZ,i,R,h,hv=>by
  unfold storeCells;obtain⟨h1,h2⟩:=hv.cons;refine aG.bnd (zyz (h.add i) h1) ?_;intro R' hR _ _ _;exact Y2 vs zeZ (i+1) (h.mono hR.le) (h2.mono hR.le)
def zvM (t:aM)(h:fW R a a'):aG P S K (VA S K) (loadVar t a) R (loadVar t a'):=by
 unfold loadVar;refine aG.bnd (zob t) ?_;rintro R1 h1 b _ rfl
 cases b with
 |true=>
  simp only[if_true];refine aG.bnd (Aw t) ?_;rintro R2 h2 n _ rfl;refine aG.bnd (zkE ((h.mono h1.le).mono h2.le) n) ?_;intro R3 h3 x y zF8;exact aG.ret (VR.agg' zF8)
 |false=>simpa using zqC (h.mono h1.le)
def zCz (t:aM)(h:fW R a a')(hv:VR S K R v v'):aG P S K lQ (storeVar t a v) R (storeVar t a' v'):=by
 unfold storeVar;refine aG.bnd (Aw t) ?_;rintro R1 h1 n _ rfl;have hc:=hv.cells;rw[<-hc.1];split
 .exact .inl (bN.bnd _)
 .exact Y2 _ _ 0 (h.mono h1.le) ((hc.mono h1.le).toList)
variable {c c':Array aF}
def zcD (e:aM)(h:bK S K R c c'):aG P S K (λR a b=>fW R a b) (newRow e c) R (newRow e c'):=by
 unfold newRow;refine aG.bnd (zdw (.cells h λo ho=>ho)) ?_;intro R1 h1 n n' hn;exact aG.ret (.mk hn)
def zuY (t:aM)(h:VR S K R v v'):aG P S K (λR a b=>fW R a b) (newVar t v) R (newVar t v'):=zcD t h.cells
def zFq (t:aM)(h:bK S K R c c')(off:Nat):aG P S K (VA S K) (part t c off) R (part t c' off):=by
 unfold part;refine aG.bnd (zob t) ?_;rintro R1 h1 b _ rfl
 cases b with
 |true=>
  simp only[if_true];refine aG.bnd (Aw t) ?_;rintro R2 h2 n _ rfl;exact aG.ret (VR.agg' (((h.mono h1.le).mono h2.le).extract _ _))
 |false=>
  simp only[jE,if_false]
  cases hc:c[off]? with
  |none=>exact .inl bN
  |some v=>obtain⟨v',J2,qF⟩:=(h.mono h1.le).get hc;rw[J2];exact aG.ret qF
end
section
variable {P:dL}{S:aO->Prop}{K:Pr}{α β γ δ:Type}{R:Pr}
def zH9 (hz:H7 P S)(e:aM):aG P S K (VA S K) (zjv e true (.tuple #[])) R (zjv e true (.tuple #[])):=by
 unfold zjv;refine aG.bnd (O0 hz e) ?_;intro R1 h1 z z' pD;refine aG.bnd (zuY e pD) ?_;intro R2 h2 a a' ha;exact aG.ret (.pointer (.some ha))
variable {v v':aF}
def zBW (e:aM)(h:VR S K R v v'):aG P S K (VA S K) (zkT e v) R (zkT e v'):=by
 unfold zkT;refine aG.bnd (zuY e h) ?_;intro R2 h2 a a' ha;exact aG.ret (.pointer (.some ha))
def zDP (t:aM)(h:VR S K R v v'):aG P S K (VA S K) (zjx t v) R (zjx t v'):=by
 unfold zjx;refine aG.bnd (zcE h) ?_;intro R1 h1 a a' ha;exact zvM t ha
def zJe (t:aM){a a':aF}(h:VR S K R a a')(hv:VR S K R v v'):aG P S K lQ (zju t a v) R (zju t a' v'):=by
 unfold zju;refine aG.bnd (zcE h) ?_;intro R1 h1 a a' ha;exact zCz t ha (hv.mono h1.le)
def zsz {r r':Nat}(h:R r r'):aG P S K (λ_ a b=>a=none/\b=none) (viewAt r) R (viewAt r'):=by
 unfold viewAt;refine aG.bnd (zaA h) ?_;rintro R1 h1 x _ rfl
 cases x with
 |some x=>exact aG.ret ⟨rfl,rfl⟩
 |none=>
  refine aG.bnd (Rw (h1.le _ _ h)) ?_;intro R2 h2 o o' ho;cases ho<;>exact aG.ret ⟨rfl,rfl⟩
variable {a a':bL}
def zAL (h:fW R a a'):aG P S K lQ (noView a) R (noView a'):=by
 cases h with
 |mk h=>
  unfold noView;refine aG.bnd (zsz h) ?_;rintro R1 h1 _ _ ⟨rfl,rfl⟩;exact aG.ret rfl
def Ur (h:fW R a a'):aG P S K lQ (byteOf a) R (byteOf a'):=by
 have h0:=h
 cases h with
 |mk h=>
  rename_i b b' o sp;unfold byteOf
  cases sp with
  |some s=>exact aG.ret rfl
  |none=>
   refine aG.bnd Tw ?_;rintro R1 h1 p q ⟨rfl,rfl⟩;refine aG.bnd (zAL (h0.mono h1.le)) ?_;rintro R2 h2 _ _ _;refine aG.bnd (zaA (h2.le _ _ (h1.le _ _ h))) ?_;rintro R3 h3 x _ rfl
   cases x with
   |none=>exact .inl bN
   |some x=>
    obtain⟨e,n⟩:=x;simp only[P.cells_g,P.bytes_g,P.depth_g,P.byteOfCell_g];split
    .exact aG.ret rfl
    .split
     .exact aG.ret rfl
     .exact .inl bN
def zCt (h:fW R a a')(c b:Nat):aG P S K (λR a b=>fW R a b) (partAt a c b) R (partAt a' c b):=by
 unfold partAt;refine aG.bnd (Ur h) ?_;rintro R1 h1 n _ rfl;have h':=h.mono h1.le
 cases h' with
 |mk h'=>
  refine aG.bnd (Ur (.mk h')) ?_;rintro R2 h2 m _ rfl;split<;>exact aG.ret (.mk (h2.le _ _ h'))
def zEk (h:fW R a a')(f:Field):aG P S K (λR a b=>fW R a b) (fieldPlace a f) R (fieldPlace a' f):=by
 unfold fieldPlace;refine aG.bnd (Aw f.type) ?_;rintro R1 h1 n _ rfl;split
 .exact zCt (h.mono h1.le) _ _
 .exact aG.ret ((h.mono h1.le).add _)
def zEb (s:aM)(h:VR S K R v v')(f:Nat):aG P S K (VA S K) (zht s v f) R (zht s v' f):=by
 unfold zht;refine aG.bnd (l7 s) ?_;rintro R1 h1 d _ ⟨rfl,hd⟩
 cases d with
 |struct fields=>
  simp only
  cases hf:fields[f]? with
  |none=>exact .inl bN
  |some fl=>
   refine aG.bnd (zcE (h.mono h1.le)) ?_;intro R2 h2 a a' ha;refine aG.bnd (zEk ha fl) ?_;intro R3 h3 b b' hb;exact aG.ret (.pointer (.some hb))
 |_=>exact .inl bN
def zkO (t:aM)(k:D4)(i:Int)(b:Option bL)(len:Nat)(elem:aM):cU Value:=do
 let tiny:=len<=1&&(match<-underlying t with| .array .. =>true|_=>false)
 match b with
 |some a=>
  if 0<=i/\i<len then pure (.pointer (some (a.add (i.toNat*(<-sizeOf elem)))))
  else if tiny then unsupported (.noEntry "op/indexAddr.an index out of range at an array of length 0 or 1 (ledger 616)")
  else boundsPanic k i len .index
 |none=>boundsPanic k i 0 .index
def zwf (t:aM)(k:D4)(i:Int){b b':Option bL}(h:wP R b b')(len:Nat)(elem:aM):aG P S K (VA S K) (zkO t k i b len elem) R (zkO t k i b' len elem):=by
 unfold zkO;refine aG.bnd (l7 t) ?_;rintro R3 h3 d _ ⟨rfl,hd⟩;have bZ:=h.mono h3.le
 cases bZ with
 |none=>exact .inl Zj
 |some ha=>
  simp only;split
  .refine aG.bnd (Aw elem) ?_
   rintro R4 h4 sz _ rfl;exact aG.ret (.pointer (.some ((ha.mono h4.le).add _)))
  .refine .inl ?_
   split<;>first|exact lG|exact Zj|(split<;>first|exact lG|exact Zj)
def zGH (t:aM){i i':aF}(h:VR S K R v v')(hi:VR S K R i i'):aG P S K (VA S K) (zm2 t v i) R (zm2 t v' i'):=by
 unfold zm2;refine aG.bnd (zgm hi) ?_;rintro R1 h1 ⟨k,n⟩ _ rfl;refine aG.bnd (l7 t) ?_;rintro R2 h2 d _ ⟨rfl,hd⟩;have hv:=(h.mono h1.le).mono h2.le
 cases d with
 |array len elem=>
  refine aG.bnd (zcE hv) ?_;intro R3 h3 a a' ha;exact zwf t k n (.some ha) len elem
 |slice elem=>
  cases hv with
  |slice ho=>exact zwf t k n ho _ elem
  |_=>exact .inl (bN.bnd _)
 |_=>exact .inl (bN.bnd _)
def zEc (t:aM){i i':aF}(h:VR S K R v v')(hi:VR S K R i i'):aG P S K (VA S K) (zmg t v i) R (zmg t v' i'):=by
 unfold zmg;refine aG.bnd (zgm hi) ?_;rintro R1 h1 ⟨k,n⟩ _ rfl;refine aG.bnd (l7 t) ?_;rintro R2 h2 d _ ⟨rfl,hd⟩;have hv:=(h.mono h1.le).mono h2.le
 cases d with
 |array len elem=>
  cases hv with
  |agg e hc=>
   simp only;split
   .refine aG.bnd (Aw elem) ?_
    rintro R3 h3 sz _ rfl;exact zFq elem (bK.mono h3.le ⟨e,hc⟩) _
   .exact .inl Zj
  |_=>exact .inl bN
 |string=>
  cases hv with
  |string s=>
   simp only;split
   .exact aG.ret (.int _ _)
   .exact .inl Zj
  |_=>exact .inl bN
 |_=>exact .inl bN
def zcu (h:VR S K R v v')(y:Nat)(c:zmj):aG P S K lQ (Ka v y c) R (Ka v' y c):=by
 unfold Ka;refine aG.bnd (zgm h) ?_;rintro R1 h1 ⟨k,n⟩ _ rfl;simp only;split
 .exact aG.ret rfl
 .exact .inl Zj
inductive zF (S:aO->Prop)(K R:Pr):Option aF->Option aF->Prop
 |none:zF S K R none none
 |some {v v':aF}:VR S K R v v'->zF S K R (some v) (some v')
def zF.mono {R':Pr}(h:R.le R'){v v':Option aF}(x:zF S K R v v'):zF S K R' v v':=by cases x with|none=>exact .none|some x=>exact .some (x.mono h)
variable {x8 gT Yp:Option aF}
def zfC (b:Bool)(len cap:Nat){lo hi mx:Option aF}(hl:zF S K R lo x8)(hh:zF S K R hi gT)(hm:zF S K R mx Yp):
 aG P S K lQ (Xh b len cap lo hi mx) R (Xh b len cap x8 gT Yp):=by
 have nd:∀{R1:Pr},xZ P K R R1->∀(m h:Nat) (c:zmj),aG P S K (lQ (α:=Nat×Nat×Nat)) (match lo with|some v=>(do let l<-Ka v h c;pure (l,h,m))|none=>pure (0,h,m)) R1 (match x8 with|some v=>(do let l<-Ka v h c;pure (l,h,m))|none=>pure (0,h,m)):=by
  intro R1 h1 m h c
  cases hl with
  |none=>exact aG.ret rfl
  |some z=>
   refine aG.bnd (zcu (z.mono h1.le) h c) ?_;rintro R2 h2 l _ rfl;exact aG.ret rfl
 unfold Xh
 cases hm with
 |none=>
  cases hh with
  |none=>cases hl with
   |none=>exact aG.ret rfl
   |some z=>exact nd (xZ.refl R) cap len (if(none:Option aF).isSome then .slice3C else .sliceB)
  |some x=>
   refine aG.bind (α:=Nat) (A:=lQ) (s:=Ka _ cap (if b then .sliceAcap else .sliceAlen)) (s':=Ka _ cap (if b then .sliceAcap else .sliceAlen)) (zcu x _ _) ?_;rintro R2 h2 h _ rfl
   cases hl with
   |none=>exact aG.ret rfl
   |some z=>exact nd h2 cap h (if(none:Option aF).isSome then .slice3C else .sliceB)
 |some y=>
  refine aG.bnd (zcu y _ _) ?_;rintro R1 h1 m _ rfl
  cases hh with
  |none=>exact .inl (bN.bnd _)
  |some x=>
   refine aG.bnd (zcu (x.mono h1.le) _ _) ?_;rintro R2 h2 h _ rfl
   cases hl with
   |none=>exact aG.ret rfl
   |some z=>
    refine aG.bnd (zcu ((z.mono h1.le).mono h2.le) _ _) ?_;rintro R3 h3 l _ rfl;exact aG.ret rfl
def zEj (t:aM){lo hi mx:Option aF}(h:VR S K R v v')(hl:zF S K R lo x8)(hh:zF S K R hi gT)(hm:zF S K R mx Yp):
 aG P S K (VA S K) (Yr t v lo hi mx) R (Yr t v' x8 gT Yp):=by
 unfold Yr;refine aG.bnd (l7 t) ?_;rintro R1 h1 d _ ⟨rfl,hd⟩;have hv:=h.mono h1.le
 cases d with
 |string=>
  cases hv with
  |string s=>
   simp only
   cases hm with
   |some y=>exact .inl (bN.bnd _)
   |none=>
    refine aG.bnd (zfC _ _ _ (hl.mono h1.le) (hh.mono h1.le) .none) ?_;rintro R2 h2 ⟨l,h,m⟩ _ rfl;exact aG.ret (.string _)
  |_=>exact .inl bN
 |slice elem=>
  cases hv with
  |slice ho=>
   refine aG.bnd (zfC _ _ _ (hl.mono h1.le) (hh.mono h1.le) (hm.mono h1.le)) ?_;rintro R2 h2 ⟨l,h,m⟩ _ rfl;refine aG.bnd (Aw elem) ?_;rintro R3 h3 sz _ rfl;refine aG.ret (.slice ?_);split
   .exact(ho.mono h2.le).mono h3.le
   .exact((ho.mono h2.le).mono h3.le).map _
  |_=>exact .inl bN
 |pointer arr=>
  refine aG.bnd (zxT hv) ?_;intro R2 h2 a a' ha;refine aG.bnd (l7 arr) ?_;rintro R3 h3 d _ ⟨rfl,hd⟩
  cases d with
  |array n elem=>
   refine aG.bnd (zfC _ _ _ (((hl.mono h1.le).mono h2.le).mono h3.le) (((hh.mono h1.le).mono h2.le).mono h3.le) (((hm.mono h1.le).mono h2.le).mono h3.le)) ?_;rintro R4 h4 ⟨l,h,m⟩ _ rfl;refine aG.bnd (Aw elem) ?_;rintro R5 h5 sz _ rfl;refine aG.ret (.slice (.some ?_));have fN:=((ha.mono h3.le).mono h4.le).mono h5.le;split
   .exact fN
   .exact fN.add _
  |_=>exact .inl bN
 |_=>exact .inl bN
def zIh (t:aM){lo hi mx:Option aF}(h:VR S K R v v')(hl:zF S K R lo x8)(hh:zF S K R hi gT)(hm:zF S K R mx Yp):
 aG P S K (VA S K) (Y7 t v lo hi mx) R (Y7 t v' x8 gT Yp):=by
 unfold Y7;refine aG.bnd (l7 t) ?_;rintro R1 h1 d _ ⟨rfl,hd⟩
 cases d with
 |array n elem=>
  refine aG.bnd (zcE (h.mono h1.le)) ?_;intro R2 h2 a a' ha;refine aG.bnd (zfC _ _ _ ((hl.mono h1.le).mono h2.le) ((hh.mono h1.le).mono h2.le) ((hm.mono h1.le).mono h2.le)) ?_;rintro R4 h4 ⟨l,h,m⟩ _ rfl;refine aG.bnd (Aw elem) ?_;rintro R5 h5 sz _ rfl;refine aG.ret (.slice (.some ?_));have fN:=(ha.mono h4.le).mono h5.le;split
  .exact fN
  .exact fN.add _
 |_=>exact zEj t (h.mono h1.le) (hl.mono h1.le) (hh.mono h1.le) (hm.mono h1.le)
def zEM (h:VR S K R v v')(i:Nat):aG P S K (VA S K) (zk7 v i) R (zk7 v' i):=by
 unfold zk7
 cases h with
 |tuple e hc=>
  rename_i xs bX;simp only
  cases hq:xs[i]? with
  |none=>exact .inl bN
  |some u=>
   obtain⟨u',M5,zas⟩:=bK.get ⟨e,hc⟩ hq;rw[M5];exact aG.ret zas
 |_=>exact .inl bN
def zy1 (t:aM){r r':Option aF}(h:zF S K R r r'):aG P S K (VA S K) (ziX t r) R (ziX t r'):=by
 have fin:∀{R1:Pr},aG P S K (VA S K) (do pure (.map (some (<-newObj (.map #[] 0))))) R1 (do pure (.map (some (<-newObj (.map #[] 0))))):=by
  intro R1;refine aG.bnd (zdw (.map ⟨rfl,λi e e' h=>by simp at h⟩)) ?_;intro R2 h2 n n' hn;exact aG.ret (.map (.some hn))
 unfold ziX
 cases h with
 |none=>exact fin
 |some x=>
  refine aG.bnd (l7 t) ?_;rintro R1 h1 d _ ⟨rfl,hd⟩
  cases d with
  |map k e=>
   refine aG.bnd (Wm (x.mono h1.le)) ?_;rintro R2 h2 n _ rfl;exact fin
  |_=>exact .inl (bN.bnd _)
def zBK (t:aM)(h:VR S K R v v'):aG P S K (VA S K) (zmY t v) R (zmY t v'):=by
 unfold zmY;refine aG.bnd (Wm h) ?_;rintro R1 h1 n _ rfl;refine aG.bnd (l7 t) ?_;rintro R2 h2 d _ ⟨rfl,hd⟩
 cases d with
 |chan dir elem=>
  refine aG.bnd (Fi elem) ?_;rintro R3 h3 inf _ ⟨rfl,hi⟩;simp only;split
  .exact .inl (vE.bnd _)
  .refine aG.bnd (zdw (.chan bK.empty)) ?_
   intro R4 h4 n n' hn;exact aG.ret (.chan (.some (.inl hn)))
 |_=>exact .inl bN
end
section
variable {P:dL}{S:aO->Prop}{K:Pr}{α β γ δ:Type}{R:Pr}
def Eu.eq_iff {R:Pr}(inj:∀a b c,R a b->R a c->b=c)(inj':∀a b c,R a c->R b c->a=b){a a' b b':Option Nat}(h:Eu R a a')(h':Eu R b b'):(a==b)=(a'==b'):=by
 cases h with
 |none=>cases h' with
  |none=>rfl
  |some y=>rfl
 |some x=>cases h' with
  |none=>rfl
  |some y=>
   rename_i p p' q q';rw[Ns];simp only[beq_iff_eq,fY];exact⟨λe=>inj _ _ _ (e▸x) y,λe=>inj' _ _ _ (e▸x) y⟩
variable {r r':Nat}
def zly (h:R r r'):aG P S K (λR a b=>(a=none/\b=none)\/∃x x' l,a=some (x,l)/\b=some (x',l)/\fW R x x') (numberAt r) R (numberAt r'):=by
 unfold numberAt;refine aG.bnd (zaA h) ?_;rintro R1 h1 x _ rfl
 cases x with
 |some x=>exact aG.ret (.inl ⟨rfl,rfl⟩)
 |none=>
  refine aG.bnd (Rw (h1.le _ _ h)) ?_;intro R2 h2 o o' ho
  cases ho with
  |number ha=>exact aG.ret (.inr ⟨_,_,_,rfl,rfl,ha⟩)
  |_=>exact aG.ret (.inl ⟨rfl,rfl⟩)
variable {a a':bL}
def zoP (h:fW R a a'):aG P S K (λR x y=>fW R x.1 y.1) (behindNumber a) R (behindNumber a'):=by
 have h0:=h
 cases h with
 |mk h=>
  unfold behindNumber;refine aG.bnd (zly h) ?_;rintro R1 h1 x y (⟨rfl,rfl⟩|⟨p,p',l,rfl,rfl,hp⟩)
  .exact aG.ret (h0.mono h1.le)
  .exact aG.ret hp
def za2:X7->Bool
 | .bool| .int _| .string| .chan .. =>true
 |_=>false
def fW.block_eq (hR:tW P K R){b b':bL}(h:fW R a a')(h':fW R b b'):(a.block==b.block)=(a'.block==b'.block):=by
 cases h with
 |mk x=>
  cases h' with
  |mk y=>
   rw[Ns];simp only[beq_iff_eq];exact⟨λe=>hR.inj _ _ _ (.inl (e▸x)) (.inl y),λe=>hR.inj' _ _ _ (.inl (e▸x)) (.inl y)⟩
def zAs (h:R r r'):aG P S K (λR' a b=>R'=R/\a=b) (shape r) R (shape r'):=.inr ⟨r',_,rfl,h,λx=>.inr ⟨x,rfl,rfl,rfl⟩⟩
def zCn (h:R r r'):aG P S K (λR' o o'=>R'=R/\oH S K R o o') (getObj r) R (getObj r'):=.inr ⟨r',_,rfl,.inl h,λo o' ho=>.inr ⟨o',rfl,rfl,ho⟩⟩
def zhz:aG P S K (λR' a b=>R'=R/\a=P.g/\b=P.c) program R program:=.inr ⟨_,rfl,.inr ⟨P.c,rfl,rfl,rfl,rfl⟩⟩
def zA1 (h:R r r'):aG P S K (λR' a b=>R'=R/\((a=none/\b=none)\/∃x x' l,a=some (x,l)/\b=some (x',l)/\fW R x x')) (numberAt r) R (numberAt r'):=by
 unfold numberAt;refine aG.bnd (zAs h) ?_;rintro R1 _ x _ ⟨rfl,rfl⟩
 cases x with
 |some x=>exact aG.ret ⟨rfl,.inl ⟨rfl,rfl⟩⟩
 |none=>
  refine aG.bnd (zCn h) ?_;rintro R2 _ o o' ⟨rfl,ho⟩
  cases ho with
  |number ha=>exact aG.ret ⟨rfl,.inr ⟨_,_,_,rfl,rfl,ha⟩⟩
  |_=>exact aG.ret ⟨rfl,.inl ⟨rfl,rfl⟩⟩
def zfZ (h:fW R a a'):aG P S K (λR' x y=>R'=R/\fW R x.1 y.1) (behindNumber a) R (behindNumber a'):=by
 have h0:=h
 cases h with
 |mk h=>
  unfold behindNumber;refine aG.bnd (zA1 h) ?_;rintro R1 _ x y ⟨rfl,⟨rfl,rfl⟩|⟨p,p',l,rfl,rfl,hp⟩⟩
  .exact aG.ret ⟨rfl,h0⟩
  .exact aG.ret ⟨rfl,hp⟩
def fW.low (hR:tW P K R)(h:fW R a a'):decide (a.block<P.globals.size)=decide (a'.block<P.globals.size):=by
 cases h with
 |mk x=>exact decide_eq_decide.2 (hR.low _ _ x)
def zns (P:dL)(t:aM):Prop:=∀i x,P.info? t=some i->i.desc≠ .named "sync.copyChecker" x
def zIs {t:aM}(hc:zns P t)(hR:tW P K R){b b':bL}(ha:fW R a a')(hb:fW R b b'):
 aG P S K lQ (do
  let(a,b):=((<-behindNumber a).1,(<-behindNumber b).1)
  if a.block==b.block&&a.block<(<-program).globals.size then return (<-byteOf a)==(<-byteOf b)
  let .named "sync.copyChecker" _:=(<-typeInfo t).desc|unsupported .addressObserved
  if a==b then pure true else unsupported .addressObserved) R (do
  let(a,b):=((<-behindNumber a').1,(<-behindNumber b').1)
  if a.block==b.block&&a.block<(<-program).globals.size then return (<-byteOf a)==(<-byteOf b)
  let .named "sync.copyChecker" _:=(<-typeInfo t).desc|unsupported .addressObserved
  if a==b then pure true else unsupported .addressObserved):=by
 refine aG.bnd (zfZ ha) ?_;rintro R1 _ x y ⟨rfl,hx⟩;refine aG.bnd (zfZ hb) ?_;rintro R2 _ u v ⟨rfl,hu⟩;refine aG.bnd zhz ?_;rintro R3 _ p q ⟨rfl,rfl,rfl⟩;rw[<-fW.block_eq hR hx hu,P.globals_g,<-fW.low hR hx];split
 .refine aG.bnd (Ur hx) ?_
  rintro R4 h4 m _ rfl;refine aG.bnd (Ur (hu.mono h4.le)) ?_;rintro R5 h5 m' _ rfl;exact aG.ret rfl
 .refine aG.bnd (Fi t) ?_
  rintro R4 h4 i _ ⟨rfl,hi⟩;refine .inl ?_;split
  .next e=>exact absurd e (hc i _ hi)
  .exact lG
def zHU (n:Nat)(t:aM)(d:X7)(hd:P.underlying t=some d)(ok:za2 d=true)(hc:∀k,d=.int k->zns P t)(hR:tW P K R){x x' y y':aF}(hx:VR S K R x x')(hy:VR S K R y y'):
 aG P S K lQ (Dh (n+1) t x y) R (Dh (n+1) t x' y'):=by
 unfold Dh;refine aG.bnd (A:=λR' a b=>R'=R/\a=b/\P.underlying t=some a) (by
  unfold underlying;refine aG.bnd zhz ?_;rintro R' _ a b ⟨rfl,ha,hb⟩;rw[ha,hb,P.underlying_g]
  cases h:P.c.underlying t with
  |some d=>exact aG.ret ⟨rfl,rfl,h⟩
  |none=>exact .inl bN) ?_
 rintro R1 _ d' _ ⟨rfl,rfl,Ae⟩;obtain rfl:d'=d:=by rw[hd] at Ae;injection Ae with e;exact e.symm
 cases d' with
 |bool=>
  cases hx with
  |bool a=>cases hy with
   |bool b=>exact aG.ret rfl
   |_=>exact .inl bN
  |_=>first|exact .inl bN|(cases hy<;>exact .inl bN)
 |string=>
  cases hx with
  |string a=>cases hy with
   |string b=>exact aG.ret rfl
   |_=>exact .inl bN
  |_=>first|exact .inl bN|(cases hy<;>exact .inl bN)
 |chan dir el=>
  cases hx with
  |chan a=>cases hy with
   |chan b=>exact aG.ret (Eu.eq_iff hR.inj hR.inj' a b)
   |_=>exact .inl bN
  |_=>first|exact .inl bN|(cases hy<;>exact .inl bN)
 |int ik=>
  cases hx with
  |int k a=>cases hy with
   |int k' b=>
    simp only;split
    .exact aG.ret rfl
    .exact .inl bN
   |pointer q=>
    cases q with
    |none=>exact .inl zjM
    |some q=>
     by_cases h0:a=0
     .subst h0;exact aG.ret rfl
     .refine .inl ?_
      split<;>first|exact lG|exact bN|(exfalso;simp_all;done)
   |_=>exact .inl zjK
  |pointer p=>cases p with
   |none=>cases hy<;>first|exact .inl lG|exact .inl bN
   |some p=>
    cases hy with
    |int k' b=>
     by_cases h0:b=0
     .subst h0;exact aG.ret rfl
     .refine .inl ?_
      split<;>first|exact lG|exact bN|(exfalso;simp_all;done)
    |pointer q=>
     cases q with
     |none=>exact .inl zjM
     |some q=>exact zIs (hc ik rfl) hR p q
    |_=>exact .inl zjM
  |_=>cases hy<;>first|exact .inl bN|exact .inl lG
 |_=>cases ok
end
section
variable {P:dL}{S:aO->Prop}{K:Pr}{α β γ δ:Type}{R:Pr}
def Ld (S:aO->Prop)(K R:Pr)(es fC:List oX):Prop:=es.length=fC.length/\∀(i:Nat) (e e':oX),es[i]? =some e->fC[i]? =some e'->Bz S K R e e'
variable {es fC:Array oX}
def qL.toList (h:qL S K R es fC):Ld S K R es.toList fC.toList:=⟨by simpa using h.1,λi e e' h1 h2=>h.2 i e e' Ua Sg⟩
variable {e e':oX}
def Ld.cons {es fC:List oX}(h:Ld S K R (e::es) (e'::fC)):Bz S K R e e'/\Ld S K R es fC:=
 ⟨h.2 0 e e' rfl rfl,by simpa using h.1,λi a b h1 h2=>h.2 (i+1) a b Ua Sg⟩
def Ld.mono {R':Pr}(hR:R.le R'){es fC:List oX}(h:Ld S K R es fC):Ld S K R' es fC:=⟨h.1,λi e e' h1 h2=>(h.2 i e e' h1 h2).mono hR⟩
def wP.eq_iff (hR:tW P K R){a a' b b':Option bL}(h:wP R a a')(h':wP R b b'):(a==b)=(a'==b'):=by
 cases h with
 |none=>cases h' with
  |none=>rfl
  |some y=>rfl
 |some x=>cases h' with
  |none=>rfl
  |some y=>
   cases x with
   |mk x=>
    cases y with
    |mk y=>
     rw[Ns];simp only[beq_iff_eq,fY,ztJ];exact⟨λe=>⟨hR.inj _ _ _ (.inl (e.1▸x)) (.inl y),e.2⟩,λe=>⟨hR.inj' _ _ _ (.inl (e.1▸x)) (.inl y),e.2⟩⟩
def Flat:aF->Prop
 | .tuple _| .agg _| .iface _ _| .nilFunc=>False
 |_=>True
variable {x x' y:aF}
def zHN (hR:tW P K R)(n:Nat){y':aF}(fx:Flat x)(fy:Flat y)(hx:VR S K R x x')(hy:VR S K R y y'):za5 n x y=za5 n x' y':=by
 cases n<;>(
  cases hx with
  |pointer h1=>cases hy with
   |pointer h2=>exact wP.eq_iff hR h1 h2
   |junk h=>exact fy.elim
   |_=>rfl
  |chan h1=>cases hy with
   |chan h2=>exact Eu.eq_iff hR.inj hR.inj' h1 h2
   |junk h=>exact fy.elim
   |_=>rfl
  |junk h=>exact fx.elim
  |iface h1=>exact fx.elim
  |agg h1=>exact fx.elim
  |tuple h1=>exact fx.elim
  |_=>cases hy<;>first|rfl|exact fy.elim)
variable {t:aM}{d:X7}
def zmO (hd:P.underlying t=some d)(ok:za2 d=true)(h:¬(Flat x/\Flat y)):fE P (zA t x y):=by
 have e:zA t x y=Dh (9999+1) t x y:=rfl;rw[e];unfold Dh;have hu:∀w,(underlying t).run P.g w=.ok d w:=λw=>by
  have:P.g.underlying t=some d:=hd;simp[underlying,program,bD,bind,cU.bind,pure,this]
 have key:∀{f:X7->cU Bool},fE P (f d)->fE P (underlying t>>=f):=λ{f} hf w hw=>by
  obtain⟨h1,w1,h2,h3⟩:=hf w hw;refine⟨h1,w1,?_,h3⟩;have:=r9 P.g (underlying t) f w;rw[hu] at this;exact this.trans h2
 refine key ?_;cases d<;>first|(cases ok;done)|skip
 all_goals(cases x<;>cases y<;>first
  |exact(h ⟨True.intro,True.intro⟩).elim
  |exact bN
  |exact lG
  |(split<;>first|exact bN|exact lG|(simp_all;done)))
def zy6 {b:Bool}(h:vY d x y=some b):Flat x/\Flat y:=by
 cases x<;>cases d<;>first|(simp[vY] at h;done)|(cases y<;>first|exact⟨trivial,trivial⟩|(simp[vY] at h;done))
variable {k k':aF}
def zA4 (d:X7){e e':aF}(f1:Flat k)(f2:Flat e)(hk:VR S K R k k')(he:VR S K R e e'):vY d k e=vY d k' e':=by
 cases hk with
 |junk _=>exact f1.elim
 |int i n=>cases he with
  |int i n=>rfl
  |junk _=>exact f2.elim
  |_=>cases d<;>rfl
 |string s=>cases he with
  |string s=>rfl
  |junk _=>exact f2.elim
  |_=>cases d<;>rfl
 |bool s=>cases he with
  |bool s=>rfl
  |junk _=>exact f2.elim
  |_=>cases d<;>rfl
 |_=>cases d<;>rfl
inductive OfR (S:aO->Prop)(K R:Pr)(F:Nat->Prop):Option (Nat×aF)->Option (Nat×aF)->Prop
 |none:OfR S K R F none none
 |some {i:Nat} {v v':aF}:VR S K R v v'->F i->OfR S K R F (some (i,v)) (some (i,v'))
structure L3 (P:dL)(t:aM):Prop where
 ex:∃d,P.underlying t=some d/\za2 d=true
 nc:∀k,P.underlying t=some (.int k)->zns P t
def znG (ht:L3 P t)(hR:tW P K R){y':aF}(hx:VR S K R x x')(hy:VR S K R y y'):aG P S K lQ (zA t x y) R (zA t x' y'):=by
 obtain⟨d,hd,ok⟩:=ht.ex;have e:∀a b,zA t a b=Dh (9999+1) t a b:=λa b=>rfl;rw[e,e];exact zHU 9999 t d hd ok (λk e=>ht.nc k (e▸hd)) hR hx hy
def zEK (hd:P.underlying t=some d)(h:vY d x y=some false)(w:aE):(zA t x y).run P.g w=.ok false w:=by
 have e:zA t x y=Dh (9999+1) t x y:=rfl;have hg:P.g.underlying t=some d:=hd;have hu:(underlying t).run P.g w=.ok d w:=by simp[underlying,program,bD,bind,cU.bind,pure,hg]
 rw[e];unfold Dh;refine(r9 P.g (underlying t) _ w).trans ?_;rw[hu]
 cases x with
 |bool a=>
  cases d with
  |bool=>
   cases y with
   |bool b=>
    have h':(a==b)=false:=by simpa[vY] using h
    show bD P.g (pure (a==b)) w=_;rw[h'];rfl
   |_=>simp[vY] at h
  |_=>simp[vY] at h
 |string a=>
  cases d with
  |string=>
   cases y with
   |string b=>
    have h':(a==b)=false:=by simpa[vY] using h
    show bD P.g (pure (a==b)) w=_;rw[h'];rfl
   |_=>simp[vY] at h
  |_=>simp[vY] at h
 |int k a=>
  cases d with
  |int dk=>
   cases y with
   |int k' b=>
    simp only[vY] at h;split at h
    .next hk=>
     have h':(a==b)=false:=by simpa using h
     show bD P.g (if k=k' then pure (a==b) else stuck "==: kinds differ") w=_;rw[if_pos hk,h'];rfl
    .cases h
   |_=>simp[vY] at h
  |_=>simp[vY] at h
 |_=>cases d<;>simp[vY] at h
def zsC (hd:P.underlying t=some d)(ok:za2 d=true)(hk:VR S K R k k'){F:Nat->Prop}:∀(es fC:List oX) (i:Nat),Ld S K R es fC->(∀j e,es[j]? =some e->Flat k->Flat e.key->F (i+j))->
 (Hf d k es i=none/\fE P (Kg t k es i))\/(Hf d k es i=none/\Hf d k' fC i=none)\/∃r r',Hf d k es i=some r/\Hf d k' fC i=some r'/\OfR S K R F r r'
 |[],[],i,h,_=>.inr (.inr ⟨_,_,rfl,rfl,.none⟩)
 |[],_::_,i,h,_=>by have:=h.1;simp at this
 |_::_,[],i,h,_=>by have:=h.1;simp at this
 |e::es,e'::fC,i,h,hF=>by
  obtain⟨h1,h2⟩:=h.cons
  cases h1 with
  |mk vI hv=>
   rename_i ek ek' ev ev' born;by_cases hf:Flat k/\Flat ek
   .unfold Hf
    simp only[<-zA4 d hf.1 hf.2 hk vI]
    cases hs:vY d k ek with
    |none=>exact .inr (.inl ⟨rfl,rfl⟩)
    |some b=>cases b with
     |true=>exact .inr (.inr ⟨_,_,rfl,rfl,.some hv zsZ⟩)
     |false=>
      rcases zsC hd ok hk es fC (i+1) h2 (λj e he a b=>by have:=hF (j+1) e (by simpa using he) a b;rwa [show i+1+j=i+(j+1) by omega]) with⟨hq,hn⟩|hr
      .refine .inl ⟨hq,λw hw=>?_⟩
       obtain⟨hh,w1,q1,q2⟩:=hn w hw;refine⟨hh,w1,?_,q2⟩;unfold Kg;refine(r9 P.g _ _ w).trans ?_;rw[zEK hd hs w];exact q1
      .exact .inr hr
   .refine .inl ⟨?_,?_⟩
    .unfold Hf
     cases hs:vY d k ek with
     |none=>rfl
     |some b=>exact absurd (zy6 hs) hf
    .unfold Kg
     exact(zmO hd ok hf).bnd _
def zp7 (ht:L3 P t):∀(es fC:List oX) (i:Nat) {R:Pr} {k k':aF} {F:Nat->Prop},tW P K R->VR S K R k k'->Ld S K R es fC->(∀j e,es[j]? =some e->Flat k->Flat e.key->F (i+j))->
 aG P S K (λR' a b=>OfR S K R' F a b) (Kg t k es i) R (Kg t k' fC i)
 |[],[],i,R,k,k',F,hR,hk,h,hF=>aG.ret .none
 |[],_::_,i,R,k,k',F,hR,hk,h,hF=>by have:=h.1;simp at this
 |_::_,[],i,R,k,k',F,hR,hk,h,hF=>by have:=h.1;simp at this
 |e::es,e'::fC,i,R,k,k',F,hR,hk,h,hF=>by
  obtain⟨h1,h2⟩:=h.cons
  cases h1 with
  |mk vI hv=>
   rename_i ek ek' ev ev' born;by_cases hf:Flat k/\Flat ek
   rotate_left
   .obtain⟨d,hd,ok⟩:=ht.ex
    refine .inl ?_;unfold Kg;exact(zmO hd ok hf).bnd _
   unfold Kg;refine aG.bnd (znG ht hR hk vI) ?_;rintro R1 hx b _ rfl
   cases b with
   |true=>exact aG.ret (.some (hv.mono hx.le) zsZ)
   |false=>exact zp7 ht es fC (i+1) (hx.ok hR) (hk.mono hx.le) (h2.mono hx.le) (λj e he a b=>by have:=hF (j+1) e (by simpa using he) a b;rwa [show i+1+j=i+(j+1) by omega])
variable {i:Nat}
def qL.get (h:qL S K R es fC)(hi:es[i]? =some e):∃e',fC[i]? =some e'/\Bz S K R e e':=by
 have:i<fC.size:=by rw[<-h.1];exact(dQ.1 hi).1
 exact⟨_,mD this,h.2 i e _ hi (mD this)⟩
def qL.none (h:qL S K R es fC)(hi:es[i]? =none):fC[i]? =none:=by
 rw[zyl] at hi⊢;rw[<-h.1];exact hi
def qL.modify (h:qL S K R es fC)(i:Nat){f f':oX->oX}(hf:∀e e',Bz S K R e e'->Bz S K R (f e) (f' e')):qL S K R (es.modify i f) (fC.modify i f'):=by
 refine⟨by simpa using h.1,λk e e' h1 h2=>?_⟩;rw[ziO] at h1 h2;split at h1
 .next e1=>
  rw[if_pos e1] at h2
  cases q:es[k]? with
  |none=>rw[q] at h1;cases h1
  |some u=>
   obtain⟨u',q',r⟩:=h.get q;rw[q] at h1;rw[q'] at h2;cases h1;cases h2;exact hf _ _ r
 .next e1=>
  rw[if_neg e1] at h2;exact h.2 k e e' h1 h2
def qL.push (h:qL S K R es fC)(he:Bz S K R e e'):qL S K R (es.push e) (fC.push e'):=by
 refine⟨by simpa using h.1,λk a a' h1 h2=>?_⟩;rw[Zl] at h1 h2;rw[<-h.1] at h2;split at h1
 .next e1=>
  rw[if_pos e1] at h2;cases h1;cases h2;exact he
 .next e1=>
  rw[if_neg e1] at h2;exact h.2 k a a' h1 h2
def qL.erase (h:qL S K R es fC)(i:Nat):qL S K R (es.eraseIdxIfInBounds i) (fC.eraseIdxIfInBounds i):=by
 unfold Array.eraseIdxIfInBounds;split
 .next hi=>
  have gT:=h.1▸hi;rw[dif_pos gT];refine⟨by simp[h.1],λk a a' h1 h2=>?_⟩;rw[Array.getElem?_eraseIdx] at h1 h2;split at h1
  .next e1=>rw[if_pos e1] at h2;exact h.2 _ _ _ h1 h2
  .next e1=>rw[if_neg e1] at h2;exact h.2 _ _ _ h1 h2
 .next hi=>
  have gT:=h.1▸hi;rw[dif_neg gT];exact h
def zlE (ht:L3 P t)(hR:tW P K R)(hk:VR S K R k k'){es fC:List oX}(he:Ld S K R es fC):
 aG P S K (λR' a b=>OfR S K R' (λi=>Flat k/\∀e,es[i]? =some e->Flat e.key) a b) (K3 t k es) R (K3 t k' fC):=by
 unfold K3;refine aG.bnd (l7 t) ?_;rintro R1 h1 d _ ⟨rfl,hd⟩;obtain⟨d',Ae,ok⟩:=ht.ex;obtain rfl:d'=d:=by rw[hd] at Ae;injection Ae with e;exact e.symm
 have hF:∀j e,es[j]? =some e->Flat k->Flat e.key->Flat k/\∀e,es[0+j]? =some e->Flat e.key:=λj e he a b=>⟨a,λe2 zgB=>by rw[qX,he] at zgB;injection zgB with zgB;exact zgB▸b⟩;rcases zsC (F:=λi=>Flat k/\∀e,es[i]? =some e->Flat e.key) hd ok (hk.mono h1.le) es fC 0 (he.mono h1.le) hF with⟨e1,hn⟩|⟨e1,e2⟩|⟨r,r',e1,e2,h⟩
 .rw[e1]
  exact .inl hn
 .rw[e1,e2]
  exact zp7 ht es fC 0 (h1.ok hR) (hk.mono h1.le) (he.mono h1.le) hF
 .rw[e1,e2]
  exact aG.ret h
def zJm (n:Nat)(ht:L3 P t)(b:Bool)(k k':aF):aG P S K lQ (Gl b (n+1) t k) R (Gl b (n+1) t k'):=by
 obtain⟨d,hd,ok⟩:=ht.ex;unfold Gl;refine aG.bnd (l7 t) ?_;rintro R1 h1 d' _ ⟨rfl,Ae⟩;obtain rfl:d'=d:=by rw[hd] at Ae;injection Ae with e;exact e.symm
 cases d' with
 |interface _=>cases ok
 |array _ _=>cases ok
 |struct _=>cases ok
 |_=>exact aG.ret rfl
def zfx (ht:L3 P t)(b:Bool)(k k':aF):aG P S K lQ (Gl b 10000 t k) R (Gl b 10000 t k'):=zJm 9999 ht b k k'
def zD5 (hR:tW P K R){a a' b b':aF}(fa:Flat a)(fb:Flat b)(ha:VR S K R a a')(hb:VR S K R b b'):aG P S K (VA S K) (Pf a b) R (Pf a' b'):=by
 unfold Pf;rw[zHN hR 10000 fa fb ha hb];split
 .exact aG.ret hb
 .refine aG.bnd (zgs _) ?_
  rintro R1 h1 n _ rfl;refine aG.ret ?_;split
  .exact hb.mono h1.le
  .exact ha.mono h1.le
def qL.keyD (h:qL S K R es fC)(i:Nat)(hk:VR S K R k k'):VR S K R (((es[i]?).map (·.key)).getD k) (((fC[i]?).map (·.key)).getD k'):=by
 cases q:es[i]? with
 |none=>rw[h.none q];exact hk
 |some e=>
  obtain⟨e',q',r⟩:=h.get q;rw[q']
  cases r with
  |mk a b=>exact a
def zzz (h:Flat k/\∀e,es.toList[i]? =some e->Flat e.key):Flat (((es[i]?).map (·.key)).getD k):=by
 cases q:es[i]? with
 |none=>exact h.1
 |some e=>exact h.2 e (by simpa using q)
def qL.isEmpty (h:qL S K R es fC):es.isEmpty=fC.isEmpty:=by simp[Array.isEmpty,h.1]
def zIY (hz:H7 P S)(ht:∀k e,P.underlying t=some (.map k e)->L3 P k)(hR:tW P K R)(hx:VR S K R x x')(hk:VR S K R k k')(c:Bool):
 aG P S K (VA S K) (zP t x k c) R (zP t x' k' c):=by
 unfold zP;refine aG.bnd (l7 t) ?_;rintro R1 h1 d _ ⟨rfl,hd⟩
 cases d with
 |map kt el=>
  have hK:=ht kt el hd
  have tail:∀R2,xZ P K R1 R2->∀es fC,qL S K R2 es fC->aG P S K (VA S K)
   (do
    Gl es.isEmpty 10000 kt k
    let r<-K3 kt k es.toList
    match r with
    |some (_,v)=>do let x<-pure (v,true);pure (if c=true then Ye #[x.fst,.bool x.snd] else x.fst)
    |none=>do let z<-zeroValue el;let x<-pure (z,false);pure (if c=true then Ye #[x.fst,.bool x.snd] else x.fst)) R2
   (do
    Gl fC.isEmpty 10000 kt k'
    let r<-K3 kt k' fC.toList
    match r with
    |some (_,v)=>do let x<-pure (v,true);pure (if c=true then Ye #[x.fst,.bool x.snd] else x.fst)
    |none=>do let z<-zeroValue el;let x<-pure (z,false);pure (if c=true then Ye #[x.fst,.bool x.snd] else x.fst)):=by
   intro R2 h2 es fC he;rw[he.isEmpty];refine aG.bnd (zfx hK _ _ _) ?_;rintro R3 h3 _ _ rfl;have Ym:=h3.ok (h2.ok (h1.ok hR));have I8:=((hk.mono h1.le).mono h2.le).mono h3.le;have fin:∀{R5:Pr} {v v':aF} {b:Bool},VR S K R5 v v'->aG P S K (VA S K) (do let x<-pure (v,b);pure (if c=true then Ye #[x.fst,.bool x.snd] else x.fst)) R5 (do let x<-pure (v',b);pure (if c=true then Ye #[x.fst,.bool x.snd] else x.fst)):=by
    intro R5 v v' b hv;refine aG.bnd (aG.ret (A:=λR (a b:aF×Bool)=>VR S K R a.1 b.1/\a.2=b.2) ⟨hv,rfl⟩) ?_;rintro R5 h5 ⟨v,b⟩ ⟨v',b'⟩ ⟨hv,e⟩;cases e
    cases c with
    |true=>exact aG.ret (VR.tuple' ((bK.empty.push hv).push (.bool b)))
    |false=>exact aG.ret hv
   refine aG.bnd (zlE hK Ym I8 (he.mono h3.le).toList) ?_;intro R4 h4 r r' hr
   cases hr with
   |some hv=>exact fin hv
   |none=>
    refine aG.bnd (O0 hz el) ?_;intro R5 h5 z z' pD;exact fin pD
  cases hx with
  |map h=>
   cases h with
   |none=>exact aG.bnd (aG.ret (A:=λR a b=>qL S K R a b) ⟨rfl,λi e e' h=>by simp at h⟩) tail
   |some h=>
    refine aG.bnd (Rw (h1.le _ _ h)) ?_;intro R2 h2 o o' ho
    cases ho with
    |map he=>exact aG.bnd (aG.ret (A:=λR a b=>qL S K R a b) he) (λR3 h3 es fC he=>tail R3 (h2.trans h3) es fC he)
    |_=>exact .inl (bN.bnd _)
  |_=>exact .inl (bN.bnd _)
 |_=>exact .inl bN
def zFo (ht:∀k e,P.underlying t=some (.map k e)->L3 P k)(hR:tW P K R){v v':aF}(hx:VR S K R x x')(hk:VR S K R k k')(hv:VR S K R v v'):
 aG P S K lQ (G6 t x k v) R (G6 t x' k' v'):=by
 unfold G6;refine aG.bnd (l7 t) ?_;rintro R1 h1 d _ ⟨rfl,hd⟩
 cases d with
 |map kt el=>
  have hK:=ht kt el hd
  cases hx with
  |map h=>
   cases h with
   |none=>exact .inl vE
   |some h=>
    refine aG.bnd (Rw (h1.le _ _ h)) ?_;intro R2 h2 o o' ho
    cases ho with
    |map he=>
     rename_i cl;refine aG.bnd (zfx hK _ _ _) ?_;rintro R3 h3 _ _ rfl;have Ym:=h3.ok (h2.ok (h1.ok hR));have I8:=((hk.mono h1.le).mono h2.le).mono h3.le;have S7:=h3.le _ _ (h2.le _ _ (h1.le _ _ h));have Lf:=((hv.mono h1.le).mono h2.le).mono h3.le;refine aG.bnd (zlE hK Ym I8 (he.mono h3.le).toList) ?_;intro R4 h4 r r' hr
     cases hr with
     |some hq zf4=>
      refine aG.bnd (zD5 (h4.ok Ym) (zzz zf4) zf4.1 (((he.mono h3.le).mono h4.le).keyD _ (I8.mono h4.le)) (I8.mono h4.le)) ?_;intro R5 h5 kk Hz fR;refine zbL (h5.le _ _ (h4.le _ _ S7)) (.map (qL.modify (((he.mono h3.le).mono h4.le).mono h5.le) _ ?_));intro e e' zAw
      cases zAw with
      |mk a b=>exact .mk fR ((Lf.mono h4.le).mono h5.le)
     |none=>exact zbL (h4.le _ _ S7) (.map (qL.push ((he.mono h3.le).mono h4.le) (.mk (I8.mono h4.le) (Lf.mono h4.le))))
    |_=>exact .inl bN
  |_=>exact .inl bN
 |_=>exact .inl bN
end
section
variable {P:dL}{S:aO->Prop}{K:Pr}{α β γ δ:Type}{R:Pr}
variable {xs bX:Array aF}
def bK.opt (h:bK S K R xs bX)(i:Nat):zF S K R xs[i]? bX[i]? :=by
 cases q:xs[i]? with
 |none=>rw[h.none q];exact .none
 |some v=>obtain⟨v',q',hv⟩:=h.get q;rw[q'];exact .some hv
def zBJ (ts:Array aM)(t:aM)(h:bK S K R xs bX):aG P S K (VA S K) (zmy ts t xs) R (zmy ts t bX):=by
 unfold zmy
 cases ts[0]? with
 |none=>exact .inl bN
 |some t=>
  have ho:=h.opt 0;generalize xs[0]? =o at ho;generalize bX[0]? =o' at ho
  cases ho with
  |none=>exact .inl bN
  |some hv=>
   simp only;refine aG.bnd (l7 t) ?_;rintro R1 h1 d _ ⟨rfl,hd⟩
   cases d with
   |string=>cases hv with
    |string s=>exact aG.ret (.int _ _)
    |_=>exact .inl bN
   |array n e=>exact aG.ret (.int _ _)
   |pointer arr=>
    refine aG.bnd (l7 arr) ?_;rintro R2 h2 d2 _ ⟨rfl,Ah⟩
    cases d2 with
    |array n e=>exact aG.ret (.int _ _)
    |_=>exact .inl bN
   |slice e=>cases hv with
    |slice _=>exact aG.ret (.int _ _)
    |_=>exact .inl bN
   |map k e=>cases hv with
    |map hm=>cases hm with
     |none=>exact aG.ret (.int _ _)
     |some hm=>
      refine aG.bnd (Rw (h1.le _ _ hm)) ?_;intro R2 h2 o o' ho
      cases ho with
      |map he=>simp only;rw[he.1];exact aG.ret (.int _ _)
      |_=>exact .inl bN
    |_=>exact .inl bN
   |chan k e=>cases hv with
    |chan hm=>cases hm with
     |none=>exact aG.ret (.int _ _)
     |some hm=>
      refine aG.bnd (zxR (hm.imp (h1.le _ _) id)) ?_;intro R2 h2 o o' ho
      cases ho with
      |chan he=>simp only;rw[he.1];exact aG.ret (.int _ _)
      |_=>exact .inl bN
    |_=>exact .inl bN
   |_=>exact .inl bN
def zA3 (ts:Array aM)(t:aM)(h:bK S K R xs bX):aG P S K (VA S K) (znA ts t xs) R (znA ts t bX):=by
 unfold znA
 cases ts[0]? with
 |none=>exact .inl bN
 |some t=>
  have ho:=h.opt 0;generalize xs[0]? =o at ho;generalize bX[0]? =o' at ho
  cases ho with
  |none=>exact .inl bN
  |some hv=>
   simp only;refine aG.bnd (l7 t) ?_;rintro R1 h1 d _ ⟨rfl,hd⟩
   cases d with
   |array n e=>exact aG.ret (.int _ _)
   |pointer arr=>
    refine aG.bnd (l7 arr) ?_;rintro R2 h2 d2 _ ⟨rfl,Ah⟩
    cases d2 with
    |array n e=>exact aG.ret (.int _ _)
    |_=>exact .inl bN
   |slice e=>cases hv with
    |slice _=>exact aG.ret (.int _ _)
    |_=>exact .inl bN
   |chan k e=>cases hv with
    |chan hm=>cases hm with
     |none=>exact aG.ret (.int _ _)
     |some hm=>
      refine aG.bnd (zxR (hm.imp (h1.le _ _) id)) ?_;intro R2 h2 o o' ho
      cases ho with
      |chan he=>exact aG.ret (.int _ _)
      |_=>exact .inl bN
    |_=>exact .inl bN
   |_=>exact .inl bN
variable {ts:Array aM}
def zBa (t:aM)(ht:∀mt k e,ts[0]? =some mt->P.underlying mt=some (.map k e)->L3 P k)(hR:tW P K R)(h:bK S K R xs bX):
 aG P S K (VA S K) (J7 ts t xs) R (J7 ts t bX):=by
 unfold J7
 cases e0:ts[0]? with
 |none=>exact .inl bN
 |some mt=>
  have ho:=h.opt 0;have yT:=h.opt 1;generalize xs[0]? =o at ho;generalize bX[0]? =o' at ho;generalize xs[1]? =p at yT;generalize bX[1]? =p' at yT
  cases ho with
  |none=>exact .inl bN
  |some hm=>
   cases yT with
   |none=>exact .inl bN
   |some hk=>
    simp only;refine aG.bnd (l7 mt) ?_;rintro R1 h1 d _ ⟨rfl,hd⟩
    cases d with
    |map kt el=>
     have hK:=ht mt kt el e0 hd;have fin:∀{R2:Pr},aG P S K (VA S K) (pure (.tuple #[])) R2 (pure (.tuple #[])):=aG.ret (VR.tuple' bK.empty)
     cases hm with
     |map hm=>
      cases hm with
      |none=>exact aG.bnd (zfx hK _ _ _) (λ_ _ _ _ _=>fin)
      |some hm=>
       refine aG.bnd (Rw (h1.le _ _ hm)) ?_;intro R2 h2 o o' ho
       cases ho with
       |map he=>
        simp only;rw[he.isEmpty];refine aG.bnd (zfx hK _ _ _) ?_;rintro R3 h3 _ _ rfl;have Ym:=h3.ok (h2.ok (h1.ok hR));have I8:=((hk.mono h1.le).mono h2.le).mono h3.le;have S7:=h3.le _ _ (h2.le _ _ (h1.le _ _ hm));refine aG.bnd (zlE hK Ym I8 (he.mono h3.le).toList) ?_;intro R4 h4 r r' hr
        cases hr with
        |some hq=>exact aG.bnd (zbL (h4.le _ _ S7) (.map (((he.mono h3.le).mono h4.le).erase _))) (λ_ _ _ _ _=>fin)
        |none=>exact aG.bnd (zbL (h4.le _ _ S7) (.map ((he.mono h3.le).mono h4.le))) (λ_ _ _ _ _=>fin)
       |_=>exact .inl (bN.bnd _)
     |_=>exact .inl (bN.bnd _)
    |_=>exact .inl bN
variable {x':aF}
def zvI {x:aF}(h:VR S K R x x'):aG P S K lQ (zvG x) R (zvG x'):=by
 cases h with
 |slice _=>exact aG.ret rfl
 |string s=>exact aG.ret rfl
 |_=>exact .inl bN
def zaM (size n:Nat){x:aF}(h:VR S K R x x'):aG P S K (λR a b=>bK S K R a b) (Sc size n x) R (Sc size n x'):=by
 cases h with
 |slice ha=>cases ha with
  |none=>exact aG.ret bK.empty
  |some ha=>exact zkE ha _
 |string s=>
  refine aG.ret ⟨rfl,λi v v' h1 h2=>?_⟩;rw[h1] at h2;injection h2 with e;subst e;rw[xL] at h1
  cases q:(s.extract 0 n).data[i]? with
  |none=>rw[q] at h1;cases h1
  |some b=>rw[q] at h1;cases h1;exact .int _ _
 |_=>exact .inl bN
def zfc {z z':Array aF}(h:bK S K R z z')(n:Nat):bK S K R (p8 z n) (p8 z' n):=by
 refine⟨by simp[p8,h.1],λi v v' h1 h2=>?_⟩;unfold p8 at h1 h2;rw[xL] at h1 h2;rw[<-h.1] at h2
 cases q:(Ma (n*z.size))[i]? with
 |none=>rw[q] at h1;cases h1
 |some j=>
  rw[q] at h1 h2;cases h1;cases h2
  cases q1:z[j%z.size]? with
  |none=>
   have q2:=h.none q1;show VR S K R (z[j%z.size]!) (z'[j%z.size]!);rw[getElem!_def,getElem!_def,q1,q2];exact .bool false
  |some u=>
   obtain⟨u',q2,hu⟩:=h.get q1;show VR S K R (z[j%z.size]!) (z'[j%z.size]!);rw[getElem!_def,getElem!_def,q1,q2];exact hu
def zEn {A:Pr->γ->δ->Prop}{F:Bool->cU γ}{F':Bool->cU δ}(o:Option aM)(hi:∀xt d,o=some xt->P.underlying xt=some d->∀k,d≠ .int k)(hF:∀R3,xZ P K R R3->aG P S K A (F false) R3 (F' false)):
 aG P S K A (match(generalizing:=false) o with|some xt=>do let l<-underlying xt;let zeros<-pure (match l with| .int k=>true|x=>false);F zeros|none=>do let zeros<-pure false;F zeros) R
  (match(generalizing:=false) o with|some xt=>do let l<-underlying xt;let zeros<-pure (match l with| .int k=>true|x=>false);F' zeros|none=>do let zeros<-pure false;F' zeros):=by
 cases o with
 |none=>
  refine aG.bnd (aG.ret (A:=λ_ a b=>a=false/\b=false) ⟨rfl,rfl⟩) ?_;rintro R3 h3 _ _ ⟨rfl,rfl⟩;exact hF R3 h3
 |some xt=>
  refine aG.bnd (l7 xt) ?_;rintro R3 h3 d _ ⟨rfl,zgz⟩;have e:∀d:X7,(∀k,d≠ .int k)->(match d with| .int k=>true|x=>false)=false:=by
   intro d h;cases d<;>first|rfl|exact absurd rfl (h _)
  refine aG.bnd (A:=λ_ a b=>a=false/\b=false) (aG.ret ⟨e d (hi xt d rfl zgz),e d (hi xt d rfl zgz)⟩) ?_;rintro R4 h4 _ _ ⟨rfl,rfl⟩;exact hF R4 (h3.trans h4)
def zGz (hz:H7 P S)(t:aM)(hi:∀xt d,ts[1]? =some xt->P.underlying xt=some d->∀k,d≠ .int k)(h:bK S K R xs bX):
 aG P S K (VA S K) (wL ts t xs) R (wL ts t bX):=by
 unfold wL
 cases e0:ts[0]? with
 |none=>exact .inl bN
 |some st=>
  have ho:=h.opt 0;have yT:=h.opt 1;generalize xs[0]? =o at ho;generalize bX[0]? =o' at ho;generalize xs[1]? =p at yT;generalize bX[1]? =p' at yT
  cases ho with
  |none=>exact .inl bN
  |some hs=>
   cases yT with
   |none=>exact .inl bN
   |some hx=>
    rename_i s s' x x';simp only;refine aG.bnd (l7 st) ?_;rintro R1 h1 d _ ⟨rfl,hd⟩
    cases d with
    |slice elem=>
     cases hs with
     |slice hb=>
      rename_i b b' n c;refine aG.bnd (Aw elem) ?_;rintro R2 h2 size _ rfl;have qW:=(hb.mono h1.le).mono h2.le;have Af:=(hx.mono h1.le).mono h2.le;refine zEn ts[1]? hi ?_;intro R3 h3;simp only[Bool.not_false,if_true,jE,if_false,false_or];refine aG.bnd (zvI (Af.mono h3.le)) ?_;rintro R4 h4 m _ rfl;have Hy:=(qW.mono h3.le).mono h4.le;have zyj:=(Af.mono h3.le).mono h4.le;split
      .refine aG.bnd (zaM size m zyj) ?_
       intro R5 h5 w w' hw;have zc5:=Hy.mono h5.le
       cases zc5 with
       |none=>exact aG.ret (.slice .none)
       |some ha=>
        refine aG.bnd (Y2 _ _ 0 (ha.add _) hw.toList) ?_;rintro R6 h6 _ _ rfl;exact aG.ret (.slice (.some (ha.mono h6.le)))
      .refine aG.bnd (Fi elem) ?_
       rintro R5 h5 inf _ ⟨rfl,zLH⟩;split
       .exact .inl (vE.bnd _)
       .refine aG.bnd (Fi elem) ?_
        rintro R6 h6 zHz _ ⟨rfl,zuK⟩;have tX:=(Hy.mono h5.le).mono h6.le;have zur:=(zyj.mono h5.le).mono h6.le;split
        .refine .inl (fE.bnd (fE.then (zyC _ _ _ _ _) λsh=>?_) _)
         split
         .exact fE.then (zzV _) λ_=>lG
         .exact lG
        .refine aG.bnd (zgs _) ?_
         rintro R7 h7 nc _ rfl;refine aG.bnd (Fi elem) ?_;rintro R8 h8 zHY _ ⟨rfl,zAW⟩;refine aG.bnd (zki _) ?_;rintro R9 h9 _ _ rfl;have xY:=((tX.mono h7.le).mono h8.le).mono h9.le;have zAg:=((zur.mono h7.le).mono h8.le).mono h9.le;refine aG.bnd (zaM size n (.slice xY)) ?_;intro zzu He o o' ho;refine aG.bnd (zaM size m (zAg.mono He.le)) ?_;intro zzv Ru w w' hw;refine aG.bnd (O0 hz elem) ?_;intro zzj zcj z z' pD;refine aG.bnd (zcD elem (((ho.mono (Ru.trans zcj).le).append (hw.mono zcj.le)).append (zfc pD.cells _))) ?_;intro zyF zzN r r' hr;exact aG.ret (.slice (.some hr))
     |_=>exact .inl bN
    |_=>exact .inl bN
def zCQ (ts:Array aM)(t:aM)(h:bK S K R xs bX):aG P S K (VA S K) (C5 ts t xs) R (C5 ts t bX):=by
 unfold C5
 cases e0:ts[0]? with
 |none=>exact .inl bN
 |some st=>
  have ho:=h.opt 0;have yT:=h.opt 1;generalize xs[0]? =o at ho;generalize bX[0]? =o' at ho;generalize xs[1]? =p at yT;generalize bX[1]? =p' at yT
  cases ho with
  |none=>exact .inl bN
  |some hs=>
   cases yT with
   |none=>exact .inl bN
   |some hx=>
    simp only;refine aG.bnd (l7 st) ?_;rintro R1 h1 d _ ⟨rfl,hd⟩
    cases d with
    |slice elem=>
     cases hs with
     |slice hb=>
      refine aG.bnd (zvI (hx.mono h1.le)) ?_;rintro R2 h2 m _ rfl;refine aG.bnd (Aw elem) ?_;rintro R3 h3 size _ rfl;refine aG.bnd (zaM size _ (((hx.mono h1.le).mono h2.le).mono h3.le)) ?_;intro R4 h4 w w' hw;have Hy:=(((hb.mono h1.le).mono h2.le).mono h3.le).mono h4.le
      cases Hy with
      |none=>exact aG.ret (.int _ _)
      |some ha=>
       refine aG.bnd (Y2 _ _ 0 ha hw.toList) ?_;rintro R6 h6 _ _ rfl;exact aG.ret (.int _ _)
     |_=>exact .inl bN
    |_=>exact .inl bN
def aG.ite {α β:Type}{A:Pr->α->β->Prop}{c:Prop}[Decidable c]{s t:cU α}{s' t':cU β}(h1:c->aG P S K A s R s')(h2:¬c->aG P S K A t R t'):aG P S K A (if c then s else t) R (if c then s' else t'):=by
 by_cases hc:c
 .rw[if_pos hc,if_pos hc];exact h1 hc
 .rw[if_neg hc,if_neg hc];exact h2 hc
variable {xt:aM}{k:D4}
def zJd {A:Pr->γ->δ->Prop}{F:Bool->cU γ}{F':Bool->cU δ}(hi:P.underlying xt=some (.int k))(hF:∀R3,xZ P K R R3->aG P S K A (F true) R3 (F' true)):
 aG P S K A (match(generalizing:=false) (some xt:Option aM) with|some xt=>do let l<-underlying xt;let zeros<-pure (match l with| .int k=>true|x=>false);F zeros|none=>do let zeros<-pure false;F zeros) R
  (match(generalizing:=false) (some xt:Option aM) with|some xt=>do let l<-underlying xt;let zeros<-pure (match l with| .int k=>true|x=>false);F' zeros|none=>do let zeros<-pure false;F' zeros):=by
 refine aG.bnd (l7 xt) ?_;rintro R3 h3 d _ ⟨rfl,zgz⟩;obtain rfl:d=.int k:=cE (zgz.symm.trans hi);refine aG.bnd (A:=λ_ a b=>a=true/\b=true) (aG.ret ⟨rfl,rfl⟩) ?_;rintro R4 h4 _ _ ⟨rfl,rfl⟩;exact hF R4 (h3.trans h4)
def zFA (hz:H7 P S)(t:aM)(e1:ts[1]? =some xt)(hi:P.underlying xt=some (.int k))(h:bK S K R xs bX):
 aG P S K (VA S K) (wL ts t xs) R (wL ts t bX):=by
 unfold wL
 cases e0:ts[0]? with
 |none=>exact .inl bN
 |some st=>
  have ho:=h.opt 0;have yT:=h.opt 1;generalize xs[0]? =o at ho;generalize bX[0]? =o' at ho;generalize xs[1]? =p at yT;generalize bX[1]? =p' at yT
  cases ho with
  |none=>exact .inl bN
  |some hs=>
   cases yT with
   |none=>exact .inl bN
   |some hx=>
    rename_i s s' x x';simp only;refine aG.bnd (l7 st) ?_;rintro R1 h1 d _ ⟨rfl,hd⟩
    cases d with
    |slice elem=>
     cases hs with
     |slice hb=>
      rename_i b b' n c;refine aG.bnd (Aw elem) ?_;rintro R2 h2 size _ rfl;have qW:=(hb.mono h1.le).mono h2.le;have Af:=(hx.mono h1.le).mono h2.le;rw[e1];refine zJd hi ?_;intro R3 h3;rw[if_pos rfl,if_pos rfl];refine aG.bnd (Wm (Af.mono h3.le)) ?_;rintro R4 h4 l0 _ rfl;refine aG.ite (λ_=>.inl (fE.bnd vE _)) (λ_=>?_);refine aG.bnd (Fi elem) ?_;rintro zL2 zGR zJX _ ⟨rfl,eY⟩;refine aG.ite (λ_=>.inl (fE.then (zky _) λ_=>fE.bnd vE _)) (λ_=>?_);refine aG.bnd (A:=lQ) (aG.ret rfl) ?_;rintro zKj zB6 m _ rfl;have Hy:=(((qW.mono h3.le).mono h4.le).mono zGR.le).mono zB6.le;have new:∀{R5:Pr},aG P S K (λR a b=>bK S K R a b) (if(!true)=true then Sc size m x else if m*size=0 then pure #[] else do pure (p8 (<-zeroValue elem).cells m)) R5 (if(!true)=true then Sc size m x' else if m*size=0 then pure #[] else do pure (p8 (<-zeroValue elem).cells m)):=by
       intro R5;refine aG.ite (λh=>by cases h) (λ_=>?_);refine aG.ite (λ_=>aG.ret bK.empty) (λ_=>?_);exact aG.bnd (O0 hz elem) λR6 h6 z z' pD=>aG.ret (zfc pD.cells _)
      refine aG.ite (λ_=>?_) (λ_=>?_)
      .refine aG.bnd new ?_
       intro R5 h5 w w' hw;have zc5:=Hy.mono h5.le
       cases zc5 with
       |none=>exact aG.ret (.slice .none)
       |some ha=>
        refine aG.bnd (Y2 _ _ 0 (ha.add _) hw.toList) ?_;rintro R6 h6 _ _ rfl;exact aG.ret (.slice (.some (ha.mono h6.le)))
      .refine aG.bnd (Fi elem) ?_
       rintro zMq zFb zJ5 _ ⟨rfl,zT⟩;refine aG.ite (λ_=>.inl (fE.bnd vE _)) (λ_=>?_);refine aG.bnd (Fi elem) ?_;rintro R6 h6 zHz _ ⟨rfl,zuK⟩;have tX:=(Hy.mono zFb.le).mono h6.le;refine aG.ite (λ_=>.inl (fE.bnd (by rw[if_pos rfl];exact vE) _)) (λ_=>?_);refine aG.bnd (zgs _) ?_;rintro R7 h7 nc _ rfl;refine aG.bnd (Fi elem) ?_;rintro R8 h8 zHY _ ⟨rfl,zAW⟩;refine aG.bnd (zki _) ?_;rintro R9 h9 _ _ rfl;have xY:=((tX.mono h7.le).mono h8.le).mono h9.le;refine aG.bnd (zaM size n (.slice xY)) ?_;intro zzu He o o' ho;refine aG.bnd new ?_;intro zzv Ru w w' hw;refine aG.bnd (O0 hz elem) ?_;intro zzj zcj z z' pD;refine aG.bnd (zcD elem (((ho.mono (Ru.trans zcj).le).append (hw.mono zcj.le)).append (zfc pD.cells _))) ?_;intro zyF zzN r r' hr;exact aG.ret (.slice (.some hr))
     |_=>exact .inl bN
    |_=>exact .inl bN
def zCH (hz:H7 P S)(ts:Array aM)(t:aM)(h:bK S K R xs bX):aG P S K (VA S K) (Uj ts t xs) R (Uj ts t bX):=by
 unfold Uj
 cases e0:ts[0]? with
 |none=>exact .inl bN
 |some st=>
  have ho:=h.opt 0;generalize xs[0]? =o at ho;generalize bX[0]? =o' at ho;have fin:∀{R2:Pr},aG P S K (VA S K) (pure (.tuple #[])) R2 (pure (.tuple #[])):=aG.ret (VR.tuple' bK.empty)
  cases ho with
  |none=>exact .inl bN
  |some hs=>
   simp only;refine aG.bnd (l7 st) ?_;rintro R1 h1 d _ ⟨rfl,hd⟩
   cases hs with
   |map hm=>
    cases hm with
    |none=>cases d<;>exact fin
    |some hm=>
     cases d
     all_goals
      refine aG.bnd (Rw (h1.le _ _ hm)) ?_;intro R2 h2 o o' ho
      cases ho with
      |map he=>exact aG.bnd (zbL (h2.le _ _ (h1.le _ _ hm)) (.map ⟨rfl,λi e e' h=>by simp at h⟩)) (λ_ _ _ _ _=>fin)
      |_=>exact .inl (by first|exact bN|exact bN.bnd _)
   |slice hb=>
    rename_i b b' n c
    cases hb with
    |none=>cases d<;>exact fin
    |some ha=>
     cases n with
     |zero=>cases d<;>exact fin
     |succ n=>
      cases d with
      |slice elem=>
       refine aG.bnd (O0 hz elem) ?_;intro R2 h2 z z' pD;refine aG.bnd (Y2 _ _ 0 ((ha.mono h1.le).mono h2.le) (zfc pD.cells _).toList) ?_;rintro R6 h6 _ _ rfl;exact fin
      |_=>exact .inl (bN.bnd _)
   |_=>cases d<;>exact .inl (bN.bnd _)
end
section
variable {P:dL}{S:aO->Prop}{K:Pr}{α β γ δ:Type}{R:Pr}
def zCN (t:aM){v v':aF}(h:VR S K R v v'):aG P S K (VA S K) (zlb t v) R (zlb t v'):=by
 unfold zlb;refine aG.bnd (l7 t) ?_;rintro R1 h1 d _ ⟨rfl,hd⟩
 cases d with
 |interface _=>exact .inl bN
 |_=>exact aG.ret (.iface (h.mono h1.le))
def zqO {z z':Array aF}(h:bK S K R z z')(n:Nat):bK S K R ((Ma n).map (z[·%z.size]!)) ((Ma n).map (z'[·%z'.size]!)):=by
 refine⟨aP,λi v v' h1 h2=>?_⟩;rw[xL] at h1 h2;rw[<-h.1] at h2
 cases q:(Ma n)[i]? with
 |none=>rw[q] at h1;cases h1
 |some j=>
  rw[q] at h1 h2;cases h1;cases h2
  cases q1:z[j%z.size]? with
  |none=>
   have q2:=h.none q1;show VR S K R (z[j%z.size]!) (z'[j%z.size]!);rw[getElem!_def,getElem!_def,q1,q2];exact .bool false
  |some u=>
   obtain⟨u',q2,hu⟩:=h.get q1;show VR S K R (z[j%z.size]!) (z'[j%z.size]!);rw[getElem!_def,getElem!_def,q1,q2];exact hu
def zoz (hz:H7 P S)(n:Nat)(e:aM){F F':Array aF->cU aF}(hF:∀R1,xZ P K R R1->∀z z',bK S K R1 z z'->aG P S K (VA S K) (F z) R1 (F' z')):
 aG P S K (VA S K) (if n=0 then do let z<-pure #[];F z else do let l<-zeroValue e;let z<-pure l.cells;F z) R (if n=0 then do let z<-pure #[];F' z else do let l<-zeroValue e;let z<-pure l.cells;F' z):=by
 split
 .exact aG.bnd (aG.ret (A:=λR a b=>bK S K R a b) bK.empty) hF
 .refine aG.bnd (O0 hz e) ?_
  intro R1 h1 z z' pD;exact aG.bnd (aG.ret (A:=λR a b=>bK S K R a b) pD.cells) (λR2 h2 a b qJ=>hF R2 (h1.trans h2) a b qJ)
def zDe (hz:H7 P S)(t:aM){l l' c c':aF}(hl:VR S K R l l')(hc:VR S K R c c'):aG P S K (VA S K) (zf2 t l c) R (zf2 t l' c'):=by
 unfold zf2;refine aG.bnd (l7 t) ?_;rintro R1 h1 d _ ⟨rfl,hd⟩
 cases d with
 |slice elem=>
  refine aG.bnd (Wm (hl.mono h1.le)) ?_;rintro R2 h2 ln _ rfl;refine aG.bnd (Wm ((hc.mono h1.le).mono h2.le)) ?_;rintro R3 h3 cp _ rfl;refine aG.bnd (Fi elem) ?_;rintro R4 h4 inf _ ⟨rfl,hi⟩;simp only;split
  .left
   split
   .exact vE.bnd _
   .split
    .exact vE.bnd _
    .exact fE.then (zky _) λ_=>vE.bnd _
  .refine aG.bnd (zki _) ?_
   rintro R5 h5 _ _ rfl;refine aG.bnd (Aw elem) ?_;rintro R6 h6 sz _ rfl;refine zoz hz _ elem ?_;intro R7 h7 z z' pD;refine aG.bnd (zcD elem (zqO pD _)) ?_;intro R8 h8 r r' hr;exact aG.ret (.slice (.some hr))
 |_=>exact .inl bN
inductive J5 (S:aO->Prop)(K R:Pr):List (Nat×aF)->List (Nat×aF)->Prop
 |nil:J5 S K R [] []
 |cons {i:Nat} {v v':aF} {l l':List (Nat×aF)}:VR S K R v v'->J5 S K R l l'->J5 S K R ((i,v)::l) ((i,v')::l')
def J5.mono {R':Pr}(hR:R.le R'){l l':List (Nat×aF)}(h:J5 S K R l l'):J5 S K R' l l':=by
 induction h with
 |nil=>exact .nil
 |cons a _ ih=>exact .cons (a.mono hR) ih
inductive OarR (S:aO->Prop)(K R:Pr):Option (Array aF)->Option (Array aF)->Prop
 |none:OarR S K R none none
 |some {c c':Array aF}:bK S K R c c'->OarR S K R (some c) (some c')
def zvy (off:Nat):∀(l l':List aF) (j:Nat) {c c':Array aF},xN S K R l l'->bK S K R c c'->
 bK S K R ((l.zipIdx j).foldl (λcs (x:aF×Nat)=>cs.setIfInBounds (off+x.2) x.1) c) ((l'.zipIdx j).foldl (λcs (x:aF×Nat)=>cs.setIfInBounds (off+x.2) x.1) c')
 |[],[],j,c,c',_,h=>h
 |[],_::_,_,_,_,h,_=>by have:=h.1;simp at this
 |_::_,[],_,_,_,h,_=>by have:=h.1;simp at this
 |x::l,x'::l',j,c,c',h,hc=>by
  obtain⟨a,b⟩:=h.cons;simp only[List.zipIdx_cons,List.foldl_cons];exact zvy off l l' (j+1) b (hc.set _ a)
def zlL (place:Nat->Option (Nat×Nat)):∀(l l':List (Nat×aF)) {c c':Array aF},J5 S K R l l'->bK S K R c c'->OarR S K R (Mr place c l) (Mr place c' l')
 |[],_,c,c',.nil,h=>.some h
 |(i,v)::l,(_,v')::l',c,c',.cons a b,h=>by
  unfold Mr
  cases place i with
  |none=>exact .none
  |some os=>
   obtain⟨off,size⟩:=os;have e1:=a.cells.1;have e2:=h.1;simp only;rw[e1,e2];split
   .exact .none
   .refine zlL place l l' b ?_
    have:=zvy off v.cells.toList v'.cells.toList 0 a.cells.toList h;rw[<-zpg,<-zpg];simpa using this
variable {ps Un:Array (Nat×aF)}
def zAc (hz:H7 P S)(t:aM)(n:Nat)(h:J5 S K R ps.toList Un.toList):aG P S K (VA S K) (zks t n ps) R (zks t n Un):=by
 unfold zks;refine aG.bnd (l7 t) ?_;rintro R1 h1 d _ ⟨rfl,hd⟩
 cases d with
 |slice elem=>
  refine aG.bnd (Aw elem) ?_;rintro R2 h2 size _ rfl;simp only;split
  .exact .inl (fE.bnd lG _)
  .refine zoz hz _ elem ?_
   intro R3 h3 z z' pD;have hf:=zlL (λi=>some (i*size,size)) _ _ (((h.mono h1.le).mono h2.le).mono h3.le) (zqO pD (n*size));revert hf;generalize Mr _ _ ps.toList=o;generalize Mr _ _ Un.toList=o';intro hf
   cases hf with
   |none=>exact .inl bN
   |some hc=>
    refine aG.bnd (zcD elem hc) ?_;intro R8 h8 r r' hr;exact aG.ret (.slice (.some hr))
 |_=>exact .inl bN
def zvL {ι κ:Type}{f:ι->cU κ}(hf:∀x (R:Pr),aG P S K lQ (f x) R (f x)):∀(l:List ι) {R:Pr},aG P S K lQ (l.mapM f) R (l.mapM f)
 |[],R=>by rw[List.mapM_nil];exact aG.ret rfl
 |x::l,R=>by
  rw[List.mapM_cons];refine aG.bnd (hf x R) ?_;rintro R1 h1 a _ rfl;refine aG.bnd (zvL hf l) ?_;rintro R2 h2 b _ rfl;exact aG.ret rfl
def zI7 (hz:H7 P S)(t:aM)(h:J5 S K R ps.toList Un.toList):aG P S K (VA S K) (znp t ps) R (znp t Un):=by
 have fin:∀{R3:Pr} (place:Nat->Option (Nat×Nat)) (Uw:String) {z z':Array aF},R.le R3->bK S K R3 z z'->aG P S K (VA S K) (match Mr place z ps.toList with|some cells=>pure (.agg cells)|_=>stuck Uw) R3 (match Mr place z' Un.toList with|some cells=>pure (.agg cells)|_=>stuck Uw):=by
  intro R3 place Uw z z' hle pD;have hf:=zlL place _ _ (h.mono hle) pD;revert hf;generalize Mr _ _ ps.toList=o;generalize Mr _ _ Un.toList=o';intro hf
  cases hf with
  |none=>exact .inl bN
  |some hc=>exact aG.ret (VR.agg' hc)
 unfold znp;refine aG.bnd (O0 hz t) ?_;intro R1 h1 z z' pD;refine aG.bnd (l7 t) ?_;rintro R2 h2 d _ ⟨rfl,hd⟩
 cases d with
 |struct fields=>
  refine aG.bnd (A:=lQ) ?_ ?_
  .rw[Array.mapM_eq_mapM_toList,map_eq_pure_bind]
   refine aG.bnd (zvL (λf R=>aG.bnd (Aw _) (λR1 h1 a b e=>by cases e;exact aG.ret rfl)) fields.toList) ?_;rintro R3 h3 l _ rfl;exact aG.ret rfl
  .rintro R3 h3 places _ rfl
   exact fin _ _ (h1.trans (h2.trans h3)).le ((pD.cells.mono h2.le).mono h3.le)
 |array n elem=>
  refine aG.bnd (Aw elem) ?_;rintro R3 h3 size _ rfl;exact fin _ _ (h1.trans (h2.trans h3)).le ((pD.cells.mono h2.le).mono h3.le)
 |_=>exact .inl bN
end
section
variable {P:dL}{S:aO->Prop}{K:Pr}{R:Pr}
def zxe (op:N4)(k:D4)(a b:Int):aG P S K (VA S K) (zrK op k a b) R (zrK op k a b):=by
 cases op<;>first|exact aG.ret (.int _ _)|exact .inl bN
def zHB (op:N4)(k:D4)(a b:Int):aG P S K (VA S K) (zkH op k a b) R (zkH op k a b):=by
 unfold zkH;split
 .exact .inl vE
 .cases op<;>first|exact aG.ret (.int _ _)|exact .inl bN
def zoR (op:N4)(k:D4)(a b:Int):aG P S K (VA S K) (zwc op k a b) R (zwc op k a b):=by
 cases op<;>first|exact aG.ret (.int _ _)|exact .inl bN
def ztx (op:N4)(k:D4)(a:Int)(k':D4)(b:Int):aG P S K (VA S K) (zj8 op k a k' b) R (zj8 op k a k' b):=by
 unfold zj8;split
 .exact .inl vE
 .cases op<;>first|exact aG.ret (.int _ _)|exact .inl bN
def zkV (op:N4)(a b:Int):aG P S K (VA S K) (Op.intCmp op a b) R (Op.intCmp op a b):=by
 cases op<;>first|exact aG.ret (.bool _)|exact .inl bN
def ziR (op:N4)(a b:ByteArray):aG P S K (VA S K) (zil op a b) R (zil op a b):=by
 unfold zil;cases op<;>first|exact aG.ret (.bool _)|exact .inl bN|skip
 simp only;split
 .exact .inl lG
 .exact aG.ret (.string _)
variable {x x':aF}
def zJg (op:UnOp)(h:VR S K R x x'):aG P S K (VA S K) (Op.unary op x) R (Op.unary op x'):=by
 cases h with
 |int k n=>cases op<;>first|exact zxe .sub k 0 n|exact zoR .xor k _ n|exact .inl bN
 |bool b=>cases op<;>first|exact aG.ret (.bool _)|exact .inl bN
 |pointer h=>cases h<;>cases op<;>first|exact .inl lG|exact .inl bN
 |_=>cases op<;>exact .inl bN
def dL.cellOfByte_g (P:dL):∀(d:Nat) (t:aM) (o:Nat),cellOfByte P.g d t o=cellOfByte P.c d t o:=by
 intro d
 induction d with
 |zero=>intro t o;rfl
 |succ d ih=>
  intro t o;unfold cellOfByte;rw[P.underlying_g];simp only[ih,P.cells_g,P.bytes_g];rfl
def dL.cellAtBytes_g (P:dL)(d:Nat)(e:aM)(c o:Nat)(b:Int):cellAtBytes P.g d e c o b=cellAtBytes P.c d e c o b:=by
 unfold cellAtBytes;simp only[P.cells_g,P.bytes_g,P.byteOfCell_g,P.cellOfByte_g];rfl
variable {y y':aF}
def zq1 (ts:Array aM)(t:aM)(hx:VR S K R x x')(hy:VR S K R y y'):aG P S K (λR v v'=>∃a a',v=.pointer a/\v'=.pointer a'/\wP R a a') (Od ts t #[x,y]) R (Od ts t #[x',y']):=by
 unfold Od
 cases hx with
 |pointer hp=>
  refine aG.bnd (Wm hy) ?_;rintro R1 h1 n _ rfl;by_cases hn:n=0
  .simp only[if_pos hn]
   cases hp with
   |none=>exact .inl lG
   |some ha=>
    cases ha with
    |mk hr=>
     refine aG.bnd (zsz (h1.le _ _ hr)) ?_;rintro R2 h2 _ _ ⟨rfl,rfl⟩;exact aG.ret ⟨_,_,rfl,rfl,.some (.mk (h2.le _ _ (h1.le _ _ hr)))⟩
  .simp only[if_neg hn]
   by_cases h0:n<0
   .simp only[if_pos h0]
    exact .inl (fE.bnd lG _)
   .simp only[if_neg h0]
    cases hp with
    |none=>exact .inl lG
    |some ha=>
     cases ha with
     |mk hr=>
      refine aG.bnd (zaA (h1.le _ _ hr)) ?_;rintro R2 h2 x _ rfl
      cases x with
      |none=>exact .inl lG
      |some x=>
       obtain⟨e,n⟩:=x;refine aG.bnd Tw ?_;rintro R3 h3 p q ⟨rfl,rfl⟩;simp only[P.cells_g,P.depth_g,P.cellAtBytes_g];split
       .exact aG.ret ⟨_,_,rfl,rfl,.some (.mk (h3.le _ _ (h2.le _ _ (h1.le _ _ hr))))⟩
       .exact .inl lG
 |_=>exact .inl bN
def zbN (ts:Array aM)(t:aM)(hx:VR S K R x x')(hy:VR S K R y y'):aG P S K (VA S K) (Od ts t #[x,y]) R (Od ts t #[x',y']):=
 (zq1 ts t hx hy).mono λR' _ a b h=>by
  obtain⟨p,p',rfl,rfl,h⟩:=h;exact .pointer h
variable {a':bL}
def zGr {a:bL}(h:fW R a a')(l:Bool):aG P S K (VA S K) (asNumber a l) R (asNumber a' l):=by
 unfold asNumber;refine aG.bnd (zdw (.number h)) ?_;rintro R1 h1 n n' hn;exact aG.ret (.pointer (.some (.mk hn)))
def zGX {a:bL}(h:fW R a a'):aG P S K (λR x y=>fW R x.1 y.1/\x.2=y.2) (behindNumber a) R (behindNumber a'):=by
 have h0:=h
 cases h with
 |mk h=>
  unfold behindNumber;refine aG.bnd (zly h) ?_;rintro R1 h1 x y (⟨rfl,rfl⟩|⟨p,p',l,rfl,rfl,hp⟩)
  .exact aG.ret ⟨h0.mono h1.le,rfl⟩
  .exact aG.ret ⟨hp,rfl⟩
def znu (t:aM)(hx:VR S K R x x')(hy:VR S K R y y'):aG P S K (VA S K) (movedNumber t x y) R (movedNumber t x' y'):=by
 unfold movedNumber;refine aG.bnd (l7 t) ?_;rintro R1 h1 d _ ⟨rfl,_⟩
 have k:aG P S K (VA S K) (do
  let .pointer (some n):=x|Od #[] t #[x,y]
  let(a,lost)<-behindNumber n
  match<-Od #[] t #[.pointer (some a),y] with
  | .pointer (some b)=>asNumber b lost
  |v=>pure v) R1 (do
  let .pointer (some n):=x'|Od #[] t #[x',y']
  let(a,lost)<-behindNumber n
  match<-Od #[] t #[.pointer (some a),y'] with
  | .pointer (some b)=>asNumber b lost
  |v=>pure v):=by
  have Fs:=hx.mono h1.le;have Ot:=hy.mono h1.le
  cases hx with
  |pointer hp=>
   cases hp with
   |none=>exact zbN _ _ Fs Ot
   |some ha=>
    refine aG.bnd (zGX (ha.mono h1.le)) ?_;rintro R2 h2 ⟨a,l⟩ ⟨a',l'⟩ ⟨h3,h4⟩;simp only at h3 h4;subst h4;refine aG.bnd (zq1 _ _ (.pointer (.some h3)) (Ot.mono h2.le)) ?_;rintro R3 h5 v v' ⟨p,p',rfl,rfl,hb⟩
    cases hb with
    |none=>exact aG.ret (.pointer .none)
    |some hb=>exact zGr hb _
  |junk _=>exact .inl bN
  |_=>exact zbN _ _ Fs Ot
 cases d<;>first|exact k|exact .inl lG|exact .inl (fE.bnd lG _)
def zyV (t:aM)(hx:VR S K R x x')(hy:VR S K R y y'):aG P S K (VA S K) (movedPointer t x y) R (movedPointer t x' y'):=by
 unfold movedPointer;have sY:=hx
 cases hx with
 |pointer hp=>
  cases hp with
  |none=>exact zbN _ _ sY hy
  |some ha=>
   have O4:=ha
   cases ha with
   |mk hr=>
    refine aG.bnd (zly hr) ?_;rintro R1 h1 x y (⟨rfl,rfl⟩|⟨p,p',l,rfl,rfl,hp⟩)
    .exact zbN #[] t (sY.mono h1.le) (hy.mono h1.le)
    .exact .inl lG
 |_=>exact zbN _ _ sY hy
end
section
variable {P:dL}{S:aO->Prop}{K:Pr}{R:Pr}
variable {a a' b b':bL}
def zyi (hR:tW P K R)(ha:fW R a a')(hb:fW R b b'):aG P S K lQ (zhM a b) R (zhM a' b'):=by
 unfold zhM;refine aG.bnd zhz ?_;rintro R1 _ p q ⟨rfl,rfl,rfl⟩;have e1:=fW.block_eq hR ha hb;have e2:=fW.low hR ha;have e3:decide (a.block>=P.globals.size)=decide (a'.block>=P.globals.size):=by
  have:=decide_eq_decide.1 e2;exact decide_eq_decide.2 aC
 have hc:(a.block !=b.block||decide (a.block>=P.g.globals.size))=(a'.block !=b'.block||decide (a'.block>=P.c.globals.size)):=by
  rw[P.globals_g];show(!(a.block==b.block)||_)=(!(a'.block==b'.block)||_);rw[e1];congr 1
 by_cases h:(a.block !=b.block||decide (a.block>=P.g.globals.size))=true
 .simp only[if_pos h]
  exact .inl (fE.bnd lG _)
 .have h':¬(a'.block !=b'.block||decide (a'.block>=P.c.globals.size))=true:=by rw[<-hc];exact h
  simp only[if_neg h,if_neg h'];refine aG.bnd (Ur ha) ?_;rintro R4 h4 m _ rfl;refine aG.bnd (Ur (hb.mono h4.le)) ?_;rintro R5 h5 m' _ rfl;exact aG.ret rfl
def zAf (hR:tW P K R)(k:D4)(ha:fW R a a')(hb:fW R b b'):aG P S K (VA S K) (ziZ k a b) R (ziZ k a' b'):=by
 unfold ziZ;refine aG.bnd (zyi hR ha hb) ?_;rintro R1 _ ⟨x,y⟩ _ rfl;exact aG.ret (.int _ _)
def zJt (hR:tW P K R)(op:N4)(ha:fW R a a')(hb:fW R b b'):aG P S K (VA S K) (zlG op a b) R (zlG op a' b'):=by
 unfold zlG;refine aG.bnd (zyi hR ha hb) ?_;rintro R1 _ ⟨x,y⟩ _ rfl;cases op<;>first|exact aG.ret (.bool _)|exact .inl lG
def zqW (k:D4)(ha:fW R a a')(n:Int):aG P S K (VA S K) (zj5 k a n) R (zj5 k a' n):=by
 unfold zj5;have O4:=ha
 cases ha with
 |mk hr=>
  refine aG.bnd (zaA hr) ?_;rintro R1 h1 x _ rfl
  cases x with
  |none=>exact .inl lG
  |some x=>
   obtain⟨e,c⟩:=x;refine aG.bnd (Fi e) ?_;rintro R2 h2 i _ ⟨rfl,_⟩;simp only;split
   .exact .inl (fE.bnd lG _)
   .refine aG.bnd (Ur (O4.mono (h1.trans h2).le)) ?_
    rintro R3 h3 m _ rfl;exact aG.ret (.int _ _)
def zD1 (op:N4)(t:aM){x y:aF}(ho:op≠ .eql/\op≠ .neq)(hx:∀k n,x≠ .int k n)(hs:∀s,x≠ .string s)(hp:∀a,x≠ .pointer a)(hf:∀k n,x≠ .float k n)(hc:∀k n m,x≠ .complex k n m):fE P (binOp op t x y):=by
 unfold binOp;split<;>first|exact bN|exact lG|(exfalso;first|exact hx _ _ rfl|exact hs _ rfl|exact hp _ rfl|exact hf _ _ rfl|exact hc _ _ _ rfl|exact ho.1 rfl|exact ho.2 rfl)
def zJq (op:N4)(t:aM)(ho:op≠ .eql/\op≠ .neq)(hR:tW P K R){x x' y y':aF}(hx:VR S K R x x')(hy:VR S K R y y'):
 aG P S K (VA S K) (binOp op t x y) R (binOp op t x' y'):=by
 have sY:=hx;have Sf:=hy
 cases hx with
 |int k a=>
  cases hy with
  |int k' b=>
   by_cases hk:k=k'
   .subst hk
    cases op<;>simp only[binOp,ne_eq,not_true_eq_false,if_false]<;>first|exact zxe _ _ _ _|exact zHB _ _ _ _|exact zoR _ _ _ _|exact ztx _ _ _ _ _|exact zkV _ _ _
   .cases op<;>simp only[binOp,ne_eq,hk,not_false_eq_true,if_true]<;>first|exact ztx _ _ _ _ _|exact .inl bN
  |pointer hp=>
   cases op<;>first|exact absurd rfl ho.1|exact absurd rfl ho.2|exact znu t Sf sY|skip
   all_goals(cases hp<;>first|exact .inl lG|skip)
   rename_i hb;refine aG.bnd (zoP hb) ?_;intro R1 h1 u v zi4;exact zqW _ zi4 _
  |_=>cases op<;>first|exact absurd rfl ho.1|exact absurd rfl ho.2|exact .inl bN
 |string a=>
  cases hy with
  |string b=>cases op<;>simp only[binOp]<;>exact ziR _ _ _
  |pointer hp=>cases op<;>first|exact absurd rfl ho.1|exact absurd rfl ho.2|exact .inl lG
  |_=>cases op<;>first|exact absurd rfl ho.1|exact absurd rfl ho.2|exact .inl bN
 |pointer hp=>
  cases hy with
  |int k n=>
   have e:∀m,VR S K R (.int k m) (.int k m):=λm=>.int k m;cases op<;>first|exact absurd rfl ho.1|exact absurd rfl ho.2|exact znu t sY (e _)|skip
   all_goals first|(cases hp<;>first|exact .inl lG|(rename_i hb;refine aG.bnd (zoP hb) ?_;intro R1 h1 u v zi4;exact zqW _ zi4 _))|skip
   all_goals
    simp only[binOp];refine aG.bnd (l7 t) ?_;rintro R1 h1 d _ ⟨rfl,_⟩;cases d<;>first|exact zyV t (sY.mono h1.le) (Sf.mono h1.le)|exact znu t (sY.mono h1.le) (Sf.mono h1.le)
  |pointer hq=>
   cases hp with
   |none=>cases hq<;>cases op<;>first|exact absurd rfl ho.1|exact absurd rfl ho.2|exact .inl lG
   |some ha=>
    cases hq with
    |none=>cases op<;>first|exact absurd rfl ho.1|exact absurd rfl ho.2|exact .inl lG
    |some hb=>
     have two:∀{F F':bL->bL->cU aF},(∀u u' v v',fW R u u'->fW R v v'->aG P S K (VA S K) (F u v) R (F' u' v'))->∀{a1 zit a2 zh1},fW R a1 zit->fW R a2 zh1->
      aG P S K (VA S K) (do F (<-behindNumber a1).1 (<-behindNumber a2).1) R (do F' (<-behindNumber zit).1 (<-behindNumber zh1).1):=by
      intro F F' hF a1 zit a2 zh1 h1 h2;refine aG.bnd (zfZ h1) ?_;rintro R1 _ u u' ⟨rfl,hu⟩;refine aG.bnd (zfZ h2) ?_;rintro R2 _ v v' ⟨rfl,hv⟩;exact hF _ _ _ _ hu hv
     cases op<;>first|exact absurd rfl ho.1|exact absurd rfl ho.2|exact .inl lG|exact two (λu u' v v' h1 h2=>zAf hR _ h1 h2) ha hb|exact two (λu u' v v' h1 h2=>zJt hR _ h1 h2) ha hb
  |_=>cases op<;>first|exact absurd rfl ho.1|exact absurd rfl ho.2|exact .inl lG|(cases hp<;>exact .inl lG)
 |_=>exact .inl (zD1 op t ho aP aP aP aP aP)
end
def Ends {α:Type}(r:Result α):Prop:=(∃x w',r=.ok x w')\/∃h w',r=.halt h w'/\Zs h
def Ends.halt {h:Halt}(ht:Zs h):Ends (.halt h w:Result α):=.inr ⟨h,w,rfl,ht⟩
def aG.tame {A:Pr->α->β->Prop}{G:Gp}(hG:G=P.gp)(s:cU α):
 ∀{R:Pr} {w W:aE} {s':cU β},aG P S K A s R s'->cV S K R G St w W->Tp w W->Ends (s.run P.g w):=by
 induction s with
 |pure a=>
  rintro R w W s' (hn|⟨b,rfl,h⟩) hw ht
  .exact .inr (hn _ hw.np)
  exact .inl ⟨a,w,rfl⟩
 |load m a k ih=>
  rintro R w W s' (hn|⟨rfl,a',k',rfl,ha,hk⟩) hw ht
  .exact .inr (hn _ hw.np)
  obtain⟨qJ⟩:=ha;rename_i b b' o sp;obtain⟨ob,xV,h1,h2,h3⟩:=hw.cont b b' qJ
  cases h3 with
  |cells hc hz=>
   rename_i c c' T fz Jf
   cases sp with
   |some sp=>simp only[bD,lF,h1,yD,rJ];exact .halt trivial
   |none=>
    cases hv:c[o]? with
    |none=>simp only[bD,lF,h1,yD,rJ,hv];exact .halt trivial
    |some v=>
     obtain⟨v',J2,qF⟩:=hc.get hv;have e1:w.cell? ⟨b,o,none⟩=some v:=by simp[lF,h1,hv]
     rw[bD,e1];exact ih v (hk v v' qF) hw ht
  |_=>simp only[bD,lF,h1,yD,rJ];exact .halt trivial
 |store m a v k ih=>
  rintro R w W s' (hn|⟨rfl,a',v',k',rfl,ha,hv,hk⟩) hw ht
  .exact .inr (hn _ hw.np)
  obtain⟨qJ⟩:=ha;rename_i b b' o sp;by_cases Mn:∃cs,v=.agg cs
  .obtain⟨cs,rfl⟩:=Mn;rw[bD];exact .halt trivial
  by_cases Bg:∃cs,v=.tuple cs
  .obtain⟨cs,rfl⟩:=Bg;rw[bD];exact .halt trivial
  rw[bD]
  rotate_left
  .exact λcs e=>Mn ⟨cs,e⟩
  .exact λcs e=>Bg ⟨cs,e⟩
  obtain⟨ob,xV,h1,h2,h3⟩:=hw.cont b b' qJ
  cases h3 with
  |cells hc hz=>
   rename_i c c' T fz Jf
   cases sp with
   |some sp=>simp only[lF,h1,Dc,rJ];exact .halt trivial
   |none=>
    cases fI:c[o]? with
    |none=>simp only[lF,h1,Dc,rJ,fI];exact .halt trivial
    |some v0=>
     have e1:w.cell? ⟨b,o,none⟩=some v0:=by simp[lF,h1,fI]
     rw[e1];simp only
     cases mR:w.frozen? ⟨b,o,none⟩ with
     |true=>exact .halt trivial
     |false=>
      simp only[jE,if_false];have Xg:¬Ln fz o:=by
       intro⟨z1,z2⟩;simp[S8,h1,z1,z2] at mR
      have zO:¬St b:=by
       intro hs;obtain⟨_,c2,T2,hi,g1,g2⟩:=hw.st b hs;rw[h1] at g1;injection g1 with g1;injection g1 with g1 _ g3;subst g1 g3;exact Xg ⟨jO _,lE (dQ.1 fI).1 g2⟩
      rw[Zy h1];have st:=mV.upd hw qJ zO (oH.cells (T:=T) (hc.set o hv) hz);exact ih hk st.rel (ht.step st)
  |_=>simp only[lF,h1,Dc,rJ];exact .halt trivial
 |new o k ih=>
  rintro R w W s' (hn|⟨o',k',rfl,ho,hk⟩) hw ht
  .exact .inr (hn _ hw.np)
  rw[bD];have st:=mV.push hw ho;exact ih _ (hk _ _ ⟨λb hb=>absurd (hw.lt _ _ hb).1 (Bt _),λa ha=>absurd (hw.lt _ _ ha).2 (Bt _),by subst hG;exact hw.gle⟩) st.rel (ht.step st)
 |shape r k ih=>
  rintro R w W s' (hn|⟨r',k',rfl,tG,hk⟩) hw ht
  .exact .inr (hn _ hw.np)
  rw[bD];exact ih _ (hk _) hw ht
 |freeze a n k ih=>
  rintro R w W s' (hn|h) hw ht
  .exact .inr (hn _ hw.np)
  .exact h.elim
 |frozen a k ih=>
  rintro R w W s' (hn|⟨r',k',rfl,hk⟩) hw ht
  .exact .inr (hn _ hw.np)
  rw[bD];exact ih _ (hk _ true) hw ht
 |getObj r k ih=>
  rintro R w W s' (hn|⟨r',k',rfl,tG,hk⟩) hw ht
  .exact .inr (hn _ hw.np)
  rw[bD];rcases hw.orR tG with x|x
  .obtain⟨ob,xV,h1,h2,h3⟩:=hw.cont r r' x
   rw[h1];have go:=ih ob (hk _ _ h3) hw ht;cases h3<;>first|exact go|exact .halt trivial
  .rw[x];exact .halt trivial
 |setObj r o k ih=>
  rintro R w W s' (hn|⟨r',o',k',rfl,tG,ho,hk⟩) hw ht
  .exact .inr (hn _ hw.np)
  rw[bD];rcases hw.orR tG with x|x
  .obtain⟨ob,xV,h1,h2,h3⟩:=hw.cont r r' x
   rw[h1];have go:(∀c T fz,ob≠ .cells c T fz)->Ends (k.run P.g {w with heap:=w.heap.setIfInBounds r o}):=λn1=>by
    have zO:¬St r:=by
     intro hs;obtain⟨_,c2,T2,hi,g1,g2⟩:=hw.st r hs;rw[h1] at g1;injection g1 with g1;exact n1 _ _ _ g1
    have st:=mV.upd hw x zO ho;exact ih hk st.rel (ht.step st)
   cases h3<;>first|exact go aP|exact .halt trivial
  .rw[x];exact .halt trivial
 |choose q k ih=>
  rintro R w W s' (hn|⟨k',rfl,hk⟩) hw ht
  .exact .inr (hn _ hw.np)
  rw[bD]
  cases hq:q.forced with
  |true=>
   simp only[if_true];exact ih 0 (hk 0) hw ht
  |false=>
   simp only[jE,if_false];have st:=mV.draw hw;exact ih _ (hk _) st.rel (ht.step st)
 |sys c k ih=>
  rintro R w W s' (hn|h) hw ht
  .exact .inr (hn _ hw.np)
  .exact h.elim
 |program k ih=>
  rintro R w W s' (hn|⟨k',rfl,hk⟩) hw ht
  .exact .inr (hn _ hw.np)
  rw[bD];exact ih _ hk hw ht
 |mark m k ih=>
  rintro R w W s' (hn|⟨rfl,k',rfl,hk⟩) hw ht
  .exact .inr (hn _ hw.np)
  rw[bD];exact ih hk hw ht
 |halt h=>
  rintro R w W s' (hn|hx) hw ht
  .exact .inr (hn _ hw.np)
  .exact hx.elim
end Go.Tt
