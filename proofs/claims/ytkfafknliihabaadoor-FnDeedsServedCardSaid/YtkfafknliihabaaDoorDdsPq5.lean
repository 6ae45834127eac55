/-
 Part 5 of what stands behind the last text.
-/
import Derived.Conc.CrowdComm
import Derived.Conc.CrowdTrace
import Derived.Conc.Beside
import Derived.Conc.Token
import Derived.Conc.MarkLaws
import Derived.Test.YtkfafknliihabaaDoorDdsPq4
set_option linter.unusedSectionVars false
set_option linter.unusedSimpArgs false
set_option linter.unusedVariables false
namespace Go.Proofs.YtkfafknliihabaaDoor
open Go.RowKit Go.Conc Go.Sort
def turnAt (ts : List DeedD) (start k : Nat) : Nat:=(start + k) % ts.length
def askF (ls : List Ln) (ts : List DeedD) (i : Nat) : Option (Ln × List UInt8):=tryF (ls.getD (ts.getD i d00).a.toNat l00) (ts.getD i d00)
structure Told where
 i : Nat
 ans : List UInt8
 ls : List Ln
def toldF (ls : List Ln) (ts : List DeedD) (i : Nat) : Option Told:=(askF ls ts i).map λ p => ⟨i,p.2,ls.set (ts.getD i d00).a.toNat p.1⟩
def turnFrom (ls : List Ln) (ts : List DeedD) (start : Nat) : Nat -> Nat -> Option Told
 | 0,_ => none
 | m + 1,k => match toldF ls ts (turnAt ts start k) with
  | some t => some t
  | none => turnFrom ls ts start m (k + 1)
def turnF (ls : List Ln) (ts : List DeedD) (start : Nat) : Option Told:=turnFrom ls ts start ts.length 0
theorem turnFrom_some {ls : List Ln} {ts : List DeedD} {start m k : Nat} {t : Told} (h : toldF ls ts (turnAt ts start k) = some t) : turnFrom ls ts start (m + 1) k = some t:=by simp [turnFrom,h]
theorem turnFrom_none {ls : List Ln} {ts : List DeedD} {start m k : Nat} (h : toldF ls ts (turnAt ts start k) = none) : turnFrom ls ts start (m + 1) k = turnFrom ls ts start m (k + 1):=by simp [turnFrom,h]
theorem SwOk.keptS {w w' : World} {base : Nat} {S : Sw} {ls : List Ln} (h : SwOk w base S ls)
  (k : ∀ (b : Nat) (o : Obj),w.heap[b]? = some o -> (∀ cs fz,o ≠ .cells cs 31 fz) -> w'.heap[b]? = some o) : SwOk w' base S ls:=by
 obtain ⟨g1,arr,g2,_⟩:=row_blk h.lines
 obtain ⟨q1,cps,⟨es,clk,e1,e2⟩,q4⟩:=h.closed
 obtain ⟨t1,tps,⟨es2,clk2,f1,f2⟩,t3,t4⟩:=h.taken
 refine ⟨k _ _ h.st (by simp),h.sb,row_at h.lines ((k _ _ g2 (by simp)).trans g2.symm),h.len,h.head,λ i c l hc hl => ?_,h.nodup,⟨q1,cps,⟨es,clk,k _ _ e1 (by simp),e2⟩,q4⟩,⟨t1,tps,⟨es2,clk2,k _ _ f1 (by simp),f2⟩,λ i c l hc hl => ?_,t4⟩,h.ne⟩
 ·obtain ⟨d1,d2,s,r,hd⟩:=h.chans i c l hc hl
  exact ⟨d1,d2,s,r,k _ _ hd (by simp)⟩
 ·rcases t3 i c l hc hl with hx | ⟨g,n,cc,x1,x2⟩
  ·exact .inl hx
  ·obtain ⟨_,cur,k2,_⟩:=row_blk x2
   exact .inr ⟨g,n,cc,x1,row_at x2 ((k _ _ k2 (by simp)).trans k2.symm)⟩
structure SetS (w1 W : World) (N : Nat) (i : Int) (s : ByteArray) : Prop where
 cell : W.heap[N]? = some (.cells #[.int .i64 i,.string s] 31)
 ne : ∀ b,b ≠ N -> W.heap[b]? = w1.heap[b]?
 load : (loadVar 31 ⟨N,0,none⟩).run Tryd.prog W = .ok (.agg #[.int .i64 i,.string s]) W
 sw : ∀ base S ls,SwOk w1 base S ls -> SwOk W base S ls
 below : ∀ B a,Below B a w1 -> B <= N -> Below B a W
theorem setS {w1 : World} {N : Nat} {x y : Value} (h : w1.heap[N]? = some (.cells #[x,y] 31)) (i : Int) (s : ByteArray) : SetS w1 ((w1.setCell ⟨N,0,none⟩ (.int .i64 i)).setCell ⟨N,1,none⟩ (.string s)) N i s:=by
 have h1:=blk_setCell h (.int .i64 i) (i:=0)
 have h2:=blk_setCell h1 (.string s) (i:=1)
 have hc : ((w1.setCell ⟨N,0,none⟩ (.int .i64 i)).setCell ⟨N,1,none⟩ (.string s)).heap[N]? = some (.cells #[.int .i64 i,.string s] 31):=h2
 have hne : ∀ b,b ≠ N -> ((w1.setCell ⟨N,0,none⟩ (.int .i64 i)).setCell ⟨N,1,none⟩ (.string s)).heap[b]? = w1.heap[b]?:=λ b hb => (Below.heap_setCell _ _ _ _ (λ e => hb e)).trans (Below.heap_setCell _ _ _ _ (λ e => hb e))
 refine ⟨hc,hne,run_loadVar_row _ N 31 31 _ (0,0) _ hc Tryd.underlying31 rfl (by kernel_rfl),λ base S ls hs => hs.keptS λ b o hb ho => ?_,λ B a hb hB => ?_⟩
 ·refine (hne b λ e => ?_).trans hb
  subst e
  rw [h] at hb
  exact ho _ _ (Option.some.inj hb).symm
 ·exact (hb.setCell hB _).setCell hB _
def TurnSays (base : Nat) (S : Sw) (ls : List Ln) (e : Ending) (w' : World) : Option Told -> Prop
 | none => e = .returned (.tuple #[.agg #[.int .i64 0,.string ⟨#[]⟩],.bool false]) /\ SwOk w' base S ls
 | some t => e = .returned (.tuple #[.agg #[.int .i64 t.i,.string ⟨t.ans.toArray⟩],.bool true]) /\ SwOk w' base S t.ls
section
variable {w : World} {base : Nat} {S : Sw} {ls : List Ln} {rooms : List Int} {ts : List DeedD}
set_option maxRecDepth 20000 in
set_option maxHeartbeats 8000000 in
theorem turn_any (h : SwOk w base S ls) (hw : base <= w.heap.size) (hr : ls.length = rooms.length + 1) (ht : tableB ts rooms.length = true) {hi n c : Nat} {A : Option Addr} (h2 : Slc w 0 hi 3 A n c (deeds ts)) (hhi : hi <= base) (hh : HeldOk ls) {st : Nat} (hst : st <= 8)
  (htab : ∀ w',Below base w w' -> Lib.TabIs Tryd.prog w' "internal/strconv.uint64pow10" .u64 Lib.pow10Tab) :
  Calls Tryd.prog 54 #[.pointer (some ⟨S.sp,0,none⟩),.slice A n c,.int .i64 st] w λ e w' => Below base w w' /\ TurnSays base S ls e w' (turnF ls ts st):=by
 obtain ⟨⟨t1,t8⟩,hts⟩:=ent_of ht
 have hlm:=h2.deedLen
 have hn8 : n <= 8:=by omega
 have hn1 : 1 <= n:=by omega
 have HT:=Lib.hid (And.intro hts (And.intro hr (And.intro hlm (And.intro hh (And.intro htab (And.intro h2 hhi))))))
 have HSW:=Lib.hid h
 have HW:=Lib.hid hw
 clear h hts hr ht t1 t8 hlm hh htab h2 hhi
 go_enter Tryd.func54, Tryd.ntmps54
 go_wp2
 go_loopw [14] (λ i wr => ∃ k : Nat,k <= n /\ i = .int .i64 k /\ turnF ls ts st = turnFrom ls ts st (n - k) k /\ SwOk wr base S ls /\ Below base w wr /\ KeepC (w.alloc (.cells #[.int .i64 0,.string ⟨#[]⟩] 31)) wr) (λ i _ => n - (intOf i).toNat)
 case atStart =>
  refine ⟨0,Nat.zero_le _,rfl,?_,HSW.out.below (below_al (Below.refl _ _) _),(below_al (Below.refl _ _) _).mono HW.out,KeepC.refl _⟩
  unfold turnF; rw [HT.out.2.2.1]; rfl
 case round =>
  obtain ⟨k,hk,rfl,hF,hs,hb,hkc⟩:=hrel
  have hcell:=hkc _ _ _ _ (heap_alloc_new w (.cells #[.int .i64 0,.string ⟨#[]⟩] 31)) (by decide)
  have zc:=blk_lt hcell
  have HI:=Lib.hid (And.intro hF (And.intro hs (And.intro hb (And.intro hkc hcell))))
  clear hF hs hkc hcell
  by_cases hlt : k < n
  ·obtain ⟨i,hi⟩ : ∃ i,i = turnAt ts st k:=⟨_,rfl⟩
   have hin : i < n:=by rw [hi,turnAt,HT.out.2.2.1]; exact Nat.mod_lt _ (by omega)
   have h2':=(HT.out.2.2.2.2.2.1.wide (Nat.le_refl 0) HT.out.2.2.2.2.2.2).keep (w':=wr) hb.size (λ b _ q _ => hb.block b q)
   obtain ⟨b,off,d,hA,_,hb3,h3,hxk,hv0,hv1,hv2⟩:=h2'.deedAt hin
   subst hA
   obtain ⟨hp,hact⟩:=HT.out.1 d (List.mem_of_getElem? hxk)
   have hLt : d.a.toNat < ls.length:=by
    rw [HT.out.2.1]
    have:=hp.2.1
    have:=hp.2.2.1
    omega
   obtain ⟨l,hl⟩ : ∃ l,ls[d.a.toNat]? = some l:=⟨_,List.getElem?_eq_getElem hLt⟩
   have hask : askF ls ts i = tryF l d:=by
    unfold askF
    rw [List.getD_eq_getElem?_getD (l:=ts),hxk]
    simp only [Option.getD_some]
    rw [List.getD_eq_getElem?_getD,hl]; rfl
   have hmod : Int.tmod ((st : Int) + (k : Int)) (n : Int) = (i : Int):=by
    rw [hi,turnAt,HT.out.2.2.1]
    rw [Int.tmod_eq_emod_of_nonneg (by omega)]
    push_cast; rfl
   have hwz : base <= wr.heap.size:=by have:=hb.size; have:=HW.out; omega
   have CALL : Calls Tryd.prog 83 #[.pointer (some ⟨S.sp,0,none⟩),.agg #[.string d.act,.int .i64 d.a,.int .i64 d.b]] wr _:=try_any HI.out.2.1 hwz hp.2.1 hl hact HT.out.2.2.2.1 (λ w' hb' => HT.out.2.2.2.2.1 w' (HI.out.2.2.1.trans hb'))
   rw [<- hask] at CALL
   have htold : toldF ls ts (turnAt ts st k) = (askF ls ts i).map λ p => ⟨i,p.2,ls.set d.a.toNat p.1⟩:=by
    unfold toldF
    rw [<- hi,List.getD_eq_getElem?_getD (l:=ts),hxk]; rfl
   have HC:=Lib.hid CALL
   have HTO:=Lib.hid htold
   have i0' : (0 : Int) <= (i : Int):=by omega
   have i1 : (i : Int) < (n : Int):=by omega
   clear CALL htold hask hl hLt hact hp hxk hi h2' hb
   obtain ⟨s,x,y⟩:=d
   generalize askF ls ts i = o at *
   cases o with
   | none =>
    go_wp2_with (go_at_call 83; refine HC.out.mono ?_; rintro e w1 ⟨hb1,hk1,rfl,hs1⟩)
    go_roundw
    case rel =>
     refine ⟨k + 1,by omega,by go_num,?_,hs1,HI.out.2.2.1.trans hb1,HI.out.2.2.2.1.trans hk1⟩
     rw [HI.out.1,show n - k = (n - (k + 1)) + 1 by omega,turnFrom_none HTO.out]
    case measure => simp [intOf]; omega
   | some p =>
    obtain ⟨l',ans⟩:=p
    go_wp2_with (go_at_call 83; refine HC.out.mono ?_; rintro e w1 ⟨hb1,hk1,rfl,hs1⟩; have hc1:=hk1 _ _ _ _ HI.out.2.2.2.2 (by decide); have c0:=blk_cell hc1 0; have c1:=blk_cell hc1 1; have f0:=blk_frozen' hc1 0; have f1:=blk_frozen' hc1 1; have HS1:=Lib.hid (And.intro hs1 (And.intro hb1 hc1)); clear hs1 hb1 hk1)
    have hT : turnF ls ts st = some ⟨i,ans,ls.set x.toNat l'⟩:=by
     rw [HI.out.1,show n - k = (n - (k + 1)) + 1 by omega]
     exact turnFrom_some HTO.out
    have X:=setS HS1.out.2.2 (i : Int) ⟨ans.toArray⟩
    generalize (w1.setCell ⟨w.heap.size,0,none⟩ (.int .i64 i)).setCell ⟨w.heap.size,1,none⟩ (.string ⟨ans.toArray⟩) = W5 at X ⊢
    rw [hT]
    refine bodyPost_ret (v:=.tuple #[.agg #[.int .i64 i,.string ⟨ans.toArray⟩],.bool true]) ?_ rfl ⟨X.below _ _ (HI.out.2.2.1.trans HS1.out.2.1) HW.out,rfl,X.sw _ _ _ HS1.out.1⟩
    have e0:=blk_cell X.cell 0
    have e1:=blk_cell X.cell 1
    simp [results,Tryd.results54,go_sem,e0,e1]
  ·have e : k = n:=by omega
   subst e
   have hc1:=HI.out.2.2.2.2
   have c0:=blk_cell hc1 0
   have c1:=blk_cell hc1 1
   have f0:=blk_frozen' hc1 0
   have f1:=blk_frozen' hc1 1
   go_wp2
   have hT : turnF ls ts st = none:=by
    rw [HI.out.1,Nat.sub_self]; rfl
   have X:=setS hc1 0 ⟨#[]⟩
   generalize (wr.setCell ⟨w.heap.size,0,none⟩ (.int .i64 0)).setCell ⟨w.heap.size,1,none⟩ (.string ⟨#[]⟩) = W5 at X ⊢
   rw [hT]
   refine bodyPost_ret (v:=.tuple #[.agg #[.int .i64 0,.string ⟨#[]⟩],.bool false]) ?_ rfl ⟨X.below _ _ HI.out.2.2.1 HW.out,rfl,X.sw _ _ _ HI.out.2.1⟩
   have e0:=blk_cell X.cell 0
   have e1:=blk_cell X.cell 1
   simp [results,Tryd.results54,go_sem,e0,e1]
end
end Go.Proofs.YtkfafknliihabaaDoor
namespace Go.Mt
open Go.Conc
open Go.ConcR (KK wgBlock WgAt stA smA rd wr mk)
inductive Rk : Type 1
 | mk (ι : Type) (f : ι -> Rk)
inductive Rk.Child : Rk -> Rk -> Prop
 | mk {ι : Type} (f : ι -> Rk) (i : ι) : Rk.Child (f i) (.mk ι f)
theorem Rk.wf : WellFounded Rk.Child:=⟨λ r => by
 induction r with
 | mk ι f ih => exact ⟨_,λ y h => by cases h with | mk _ i => exact ih i⟩⟩
structure Terr where
 own : Nat -> Prop
 still : Nat -> Prop
 pass : Nat -> Prop
def Terr.grow (τ : Terr) (w w' : World) : Terr:={ τ with own:=λ b => τ.own b \/ (w.heap.size <= b /\ b < w'.heap.size) }
inductive Act (L : Type) where
 | send (c : Nat) (ok : Value -> Prop) (pub : Value -> List Nat) (nx : Value -> L)
 | recv (c : Nat) (ok : Value -> Prop) (nx : Value -> L) (shut : L)
 | close (c : Nat) (nx : L)
 | add (nx : L)
 | spawn (pub : List Nat) (child nx : L)
 | done
 | wait
inductive Ph (L : Type) where
 | gone
 | usr (l : L)
 | rel (l : L)
 | l1 (l : L)
 | l2 (l : L)
 | l3 (l : L)
 | quit (l : L)
 | w1 (b : Nat)
 | w2 (v : Nat)
 | w3
 | w4
 | w5
inductive Pj (L : Type) where
 | gone
 | run (l : L)
 | over (l : L)
 | waits
def Ph.proj {L : Type} : Ph L -> Pj L
 | .gone => .gone
 | .usr l => .run l
 | .rel l | .l1 l | .l2 l | .l3 l | .quit l => .over l
 | .w1 _ | .w2 _ | .w3 | .w4 | .w5 => .waits
abbrev Chs:=Nat -> Option Bool
def Chs.opn (ch : Chs) (l : List Nat) : Chs:=λ c => if c ∈ l then some false else ch c
structure Proto (L : Type) where
 act : L -> Act L
 dep : L -> World -> Prop
 pend : L -> Bool
 cl : L -> Prop
 Inv : (Nat -> Pj L) -> Chs -> Prop
def Proto.Blocked {L : Type} (A : Proto L) (q : Nat -> Pj L) (ch : Chs) (l : L) : Prop:=
 match A.act l with
 | .send c _ _ _ => ¬ ∃ j l' ok nx sh,q j = .run l' /\ A.act l' = .recv c ok nx sh
 | .recv c _ _ _ => ch c = some false /\ ¬ ∃ j l' ok pub nx,q j = .run l' /\ A.act l' = .send c ok pub nx
 | _ => False
def Pj.c {L : Type} : Pj L -> Nat
 | .gone => 0
 | _ => 1
def num {L : Type} (q : Nat -> Pj L) : Nat -> Nat
 | 0 => 0
 | n + 1 => num q n + (q n).c
def upd {α : Type _} (f : Nat -> α) (i : Nat) (x : α) : Nat -> α:=λ a => if a = i then x else f a
structure Proto.Ok {L : Type} (A : Proto L) : Prop where
 send1 : ∀ q ch i j li lj c ok pub nx ok' pub' nx',A.Inv q ch -> q i = .run li -> q j = .run lj -> A.act li = .send c ok pub nx -> A.act lj = .send c ok' pub' nx' -> i = j
 recv1 : ∀ q ch i j li lj c ok nx sh ok' nx' sh',A.Inv q ch -> q i = .run li -> q j = .run lj -> A.act li = .recv c ok nx sh -> A.act lj = .recv c ok' nx' sh' -> i = j
 sendC : ∀ q ch i l c ok pub nx,A.Inv q ch -> q i = .run l -> A.act l = .send c ok pub nx -> ch c = some false
 recvC : ∀ q ch i l c ok nx sh,A.Inv q ch -> q i = .run l -> A.act l = .recv c ok nx sh -> ∃ b,ch c = some b
 meet : ∀ q ch i j li lj c ok pub nx ok' nx' sh v,A.Inv q ch -> q i = .run li -> q j = .run lj -> A.act li = .send c ok pub nx -> A.act lj = .recv c ok' nx' sh -> ok v ->
  (∀ a ∈ pub v,ch a = none) -> ok' v /\ A.Inv (upd (upd q i (.run (nx v))) j (.run (nx' v))) (ch.opn (pub v))
 shut : ∀ q ch i l c ok nx sh,A.Inv q ch -> q i = .run l -> A.act l = .recv c ok nx sh -> ch c = some true -> A.cl l /\ A.Inv (upd q i (.run sh)) ch
 close : ∀ q ch i l c nx,A.Inv q ch -> q i = .run l -> A.act l = .close c nx -> ch c = some false /\ A.Inv (upd q i (.run nx)) (upd ch c (some true))
 add : ∀ q ch i l nx,A.Inv q ch -> q i = .run l -> A.act l = .add nx -> i = 0 /\ A.pend l = false /\ A.pend nx = true /\ A.Inv (upd q i (.run nx)) ch
 spawn : ∀ q ch i l pub lc nx k,A.Inv q ch -> q i = .run l -> A.act l = .spawn pub lc nx -> i = 0 /\ A.pend l = true /\ A.pend nx = false /\ (q k = .gone -> k ≠ 0 -> (∀ a ∈ pub,ch a = none) -> A.Inv (upd (upd q i (.run nx)) k (.run lc)) (ch.opn pub))
 done : ∀ q ch i l,A.Inv q ch -> q i = .run l -> A.act l = .done -> i ≠ 0 /\ A.Inv (upd q i (.over l)) ch
 wait : ∀ q ch i l,A.Inv q ch -> q i = .run l -> A.act l = .wait -> i = 0 /\ A.pend l = false /\ A.Inv (upd q i .waits) ch
 prog : ∀ q ch,A.Inv q ch -> (∀ i l,q i = .run l -> A.Blocked q ch l) -> q 0 = .waits /\ ∀ i l,q i ≠ .run l
 pendC : ∀ l l' c v ok pub nx,A.act l = .send c ok pub nx -> l' = nx v -> A.pend l' = A.pend l
 pendR : ∀ l l' c v ok nx sh,A.act l = .recv c ok nx sh -> (l' = nx v \/ l' = sh) -> A.pend l' = A.pend l
 pendX : ∀ l c nx,A.act l = .close c nx -> A.pend nx = A.pend l
 few : ∀ q ch,A.Inv q ch -> ∀ n,num q n < 2000000000
section
variable {L : Type} (P : Program) (ty : TypeId) (Wg : Nat) (A : Proto L) (Fin : Goroutine -> World -> Prop)
def WgLive (w : World) : Prop:=∃ st sm,WgAt ty Wg w st sm
structure Suf (τ : Terr) (w w₁ : World) : Prop where
 tape : w₁.tape = w.tape
 os : w₁.os = w.os
 output : w₁.output = w.output
 size : w.heap.size <= w₁.heap.size
 keep : ∀ b,τ.own b \/ τ.still b -> w₁.heap[b]? = w.heap[b]?
 live : WgLive ty Wg w -> WgLive ty Wg w₁
structure Gua (O : Nat -> Prop) (w w' : World) : Prop where
 tape : w'.tape = w.tape
 os : w'.os = w.os
 output : w'.output = w.output
 size : w.heap.size <= w'.heap.size
 keep : ∀ b,b < w.heap.size -> ¬ O b -> w'.heap[b]? = w.heap[b]?
def EvT (main : Bool) (O Z : Nat -> Prop) (e : Event) : Prop:=
 match e.loc with
 | .cell a => O a.block \/ (Z a.block /\ e.write = false)
 | .obj r => O r \/ (Z r /\ e.write = false)
 | .mark (.read a) | .mark (.write a) => main = true /\ a.block = Wg
 | .mark (.acquire _) | .mark (.release _) | .mark (.releaseMerge _) => False
 | .mark _ => True
 | _ => False
variable (K : Bool -> Ph L -> Nat -> Terr -> Goroutine -> World -> Prop)
def GoG (main : Bool) (ph : Ph L) (d : Nat) (τ : Terr) (g : Goroutine) (w₁ : World) : Prop:=
 ∃ g' w' es,stepG P main g w₁ = .go g' w' es /\ g'.status = .running /\ Gua τ.own w₁ w' /\ (∀ e ∈ es,EvT Wg main (τ.grow w₁ w').own τ.still e) /\ K main ph (deafBehind d es) (τ.grow w₁ w') g' w'
def CommG (main : Bool) (ph : Ph L) (d : Nat) (τ : Terr) (g : Goroutine) (w₁ : World) : Prop:=
 ∃ cs sh v wm w' es,stepG P main g w₁ = .comm g cs false sh wm es /\ (Tt.commS cs sh).run P wm = .ok v w' /\ (∀ c ∈ cs.toList,∀ r,c.chan = .chan (some r) -> (τ.grow w₁ w').own r) /\ wm.heap.size <= w'.heap.size /\ Gua τ.own w₁ w' /\
  (∀ e ∈ es,EvT Wg main (τ.grow w₁ w').own τ.still e) /\ K main ph (deafBehind d es) (τ.grow w₁ w') (Conc.served g v) w'
def OwnG (main : Bool) (ph : Ph L) (d : Nat) (τ : Terr) (g : Goroutine) (w : World) : Prop:=∀ w₁,Suf ty Wg τ w w₁ -> GoG P Wg K main ph d τ g w₁
def Own1 (main : Bool) (ph : Ph L) (d : Nat) (τ : Terr) (g : Goroutine) (w : World) : Prop:=
 ∀ w₁,Suf ty Wg τ w w₁ -> GoG P Wg K main ph d τ g w₁ \/ CommG P Wg K main ph d τ g w₁
def Idle1 (main : Bool) (ph : Ph L) (d : Nat) (τ : Terr) (g : Goroutine) (w : World) : Prop:=
 ∀ w₁,Suf ty Wg τ w w₁ -> ∃ g' es,stepG P main g w₁ = .go g' w₁ es /\ g'.status = .running /\ (∀ e ∈ es,Event.mute e = true) /\ K main ph (deafBehind d es) τ g' w₁
def st (v wt : Nat) : Value:=.int .u64 ((v : Int) * KK + wt)
def freshChan (w : World) (a : Nat) : Prop:=w.heap[a]? = some (.chan 0 #[] false 0 0 false)
def AtUsr (main : Bool) (l : L) (d : Nat) (τ : Terr) (g : Goroutine) (w : World) : Prop:=
 match A.act l with
 | .send c ok pub nx => g.offers = none /\ ∃ v z τ',(∀ w₁,Suf ty Wg τ w w₁ -> stepG P main g w₁ = .comm g #[scase c v z] true .send w₁ #[]) /\ ok v /\ (∀ b,τ'.own b -> τ.own b) /\ τ'.still = τ.still /\ (∀ b,τ'.pass b -> τ.pass b \/ τ.own b) /\
   (∀ a ∈ pub v,τ.own a /\ ¬ τ'.own a /\ ¬ τ'.still a /\ freshChan w a) /\ K main (.usr (nx v)) d τ' (Conc.served g undef) w
 | .recv c ok nx sh => g.offers = none /\ ∃ z b,(∀ w₁,Suf ty Wg τ w w₁ -> stepG P main g w₁ = .comm g #[rcase c z] true (.recv b) w₁ #[]) /\ (∀ v,ok v -> K main (.usr (nx v)) d τ (Conc.served g (recvd b v true)) w) /\ (A.cl l -> K main (.usr sh) d τ (Conc.served g (recvd b z false)) w)
 | .close c nx => mayWake P g = true /\ τ.pass c /\ ∀ w₁,Suf ty Wg τ w w₁ -> ∀ s r,w₁.heap[c]? = some (.chan 0 #[] false s r false) ->
   ∃ g',stepG P main g w₁ = .go g' (w₁.setChan c 0 #[] true s r false) (closeEvents c) /\ g'.status = .running /\ K main (.usr nx) d τ g' (w₁.setChan c 0 #[] true s r false)
 | .add nx => ∀ w₁,Suf ty Wg τ w w₁ -> ∀ v : Nat,v < 2147483647 -> WgAt ty Wg w₁ (v * KK) 0 ->
   ∃ g',stepG P main g w₁ = .go g' (w₁.setCell (stA Wg) (st (v + 1) 0)) #[rd (stA Wg),wr (stA Wg)] /\ g'.status = .running /\ K main (.usr nx) d τ g' (w₁.setCell (stA Wg) (st (v + 1) 0))
 | .spawn pub lc nx => d = 0 /\ ∀ w₁,Suf ty Wg τ w w₁ -> ∃ g' child τm τc,stepG P main g w₁ = .spawn g' child w₁ #[] /\ g'.status = .running /\ child.status = .running /\
   (∀ b,τm.own b \/ τc.own b -> τ.own b) /\ (∀ b,τm.still b \/ τc.still b -> τ.still b \/ τ.own b) /\ (∀ b,τm.pass b \/ τc.pass b -> τ.pass b \/ τ.own b \/ τ.still b) /\
   (∀ b,τm.own b -> ¬ τc.own b /\ ¬ τc.still b /\ ¬ τc.pass b) /\ (∀ b,τc.own b -> ¬ τm.still b /\ ¬ τm.pass b) /\
   (∀ a ∈ pub,τ.own a /\ freshChan w₁ a /\ ¬ τm.own a /\ ¬ τm.still a /\ ¬ τc.own a /\ ¬ τc.still a) /\ K main (.usr nx) 0 τm g' w₁ /\ K false (.usr lc) 0 τc child w₁
 | .done => d = 0 /\ main = false /\ (∀ w₁,Suf ty Wg τ w w₁ -> A.dep l w₁) /\ ∀ w₁,Suf ty Wg τ w w₁ -> ∃ g',stepG P main g w₁ = .go g' w₁ #[mk (.releaseMerge (stA Wg))] /\ g'.status = .running /\ K main (.rel l) 0 τ g' w₁
 | .wait => ∀ w₁,Suf ty Wg τ w w₁ -> ∀ v : Nat,v < 2147483648 -> WgAt ty Wg w₁ (v * KK) 0 -> ∃ g',stepG P main g w₁ = .go g' w₁ #[rd (stA Wg)] /\ g'.status = .running /\
   (v = 0 -> K main .w5 d τ g' w₁) /\ (v ≠ 0 -> K main (.w2 v) d τ g' w₁)
def AtPh (main : Bool) (ph : Ph L) (d : Nat) (τ : Terr) (g : Goroutine) (w : World) : Prop:=
 match ph with
 | .gone | .quit _ => False
 | .usr l => AtUsr P ty Wg A K main l d τ g w
 | .rel l => ∀ w₁,Suf ty Wg τ w w₁ -> ∀ v wt : Nat,wt <= 1 -> v < 2147483647 -> WgAt ty Wg w₁ ((v + 1 : Nat) * KK + wt) 0 ->
   ∃ g',stepG P main g w₁ = .go g' (w₁.setCell (stA Wg) (st v wt)) #[rd (stA Wg),wr (stA Wg)] /\ g'.status = .running /\ 0 < d /\
    ((v = 0 /\ wt = 1) -> K main (.l1 l) d τ g' (w₁.setCell (stA Wg) (st v wt))) /\ (¬ (v = 0 /\ wt = 1) -> ∃ q,QuitsD P q d g')
 | .l1 l => ∀ w₁,Suf ty Wg τ w w₁ -> WgAt ty Wg w₁ 1 0 -> ∃ g',stepG P main g w₁ = .go g' w₁ #[rd (stA Wg)] /\ g'.status = .running /\ 0 < d /\ K main (.l2 l) d τ g' w₁
 | .l2 l => ∀ w₁,Suf ty Wg τ w w₁ -> WgAt ty Wg w₁ 1 0 -> ∃ g',stepG P main g w₁ = .go g' (w₁.setCell (stA Wg) (st 0 0)) #[wr (stA Wg)] /\ g'.status = .running /\ 0 < d /\ K main (.l3 l) d τ g' (w₁.setCell (stA Wg) (st 0 0))
 | .l3 l => mayWake P g = true /\ ∀ w₁,Suf ty Wg τ w w₁ -> WgAt ty Wg w₁ 0 0 -> ∃ g',stepG P main g w₁ = .go g' (w₁.setCell (smA Wg) (.int .u32 1)) (semEvents (smA Wg)) /\ g'.status = .running /\ 0 < d /\ ∃ q,QuitsD P q d g'
 | .w1 b => ∀ w₁,Suf ty Wg τ w w₁ -> ∀ v : Nat,v < b -> v < 2147483648 -> WgAt ty Wg w₁ (v * KK) 0 -> ∃ g',stepG P main g w₁ = .go g' w₁ #[rd (stA Wg)] /\ g'.status = .running /\
   (v = 0 -> K main .w5 d τ g' w₁) /\ (v ≠ 0 -> K main (.w2 v) d τ g' w₁)
 | .w2 vs => ∀ w₁,Suf ty Wg τ w w₁ -> ∀ v : Nat,v < 2147483648 -> WgAt ty Wg w₁ (v * KK) 0 ->
   (v = vs -> ∃ g',stepG P main g w₁ = .go g' (w₁.setCell (stA Wg) (st v 1)) #[rd (stA Wg),wr (stA Wg)] /\ g'.status = .running /\ K main .w3 d τ g' (w₁.setCell (stA Wg) (st v 1))) /\
   (v < vs -> ∃ g',stepG P main g w₁ = .go g' w₁ #[rd (stA Wg)] /\ g'.status = .running /\ K main (.w1 vs) d τ g' w₁)
 | .w3 => g.offers = none /\ ∀ w₁,Suf ty Wg τ w w₁ -> ((∃ x,WgAt ty Wg w₁ x 0) -> stepG P main g w₁ = .go { g with status:=.blocked } w₁ #[]) /\
   (WgAt ty Wg w₁ 0 1 -> ∃ g',stepG P main g w₁ = .go g' (w₁.setCell (smA Wg) (.int .u32 0)) (semEvents (smA Wg)) /\ g'.status = .running /\ K main .w4 d τ g' (w₁.setCell (smA Wg) (.int .u32 0)))
 | .w4 => ∀ w₁,Suf ty Wg τ w w₁ -> WgAt ty Wg w₁ 0 0 -> ∃ g',stepG P main g w₁ = .go g' w₁ #[rd (stA Wg)] /\ g'.status = .running /\ K main .w5 d τ g' w₁
 | .w5 => d = 0 /\ ∀ w₁,Suf ty Wg τ w w₁ -> (∃ q ch,A.Inv q ch /\ q 0 = .waits /\ (∀ i l,q i ≠ .run l) /\ ∀ i l,q i = .over l -> A.dep l w₁) ->
   ∃ g',stepG P main g w₁ = .go g' w₁ #[mk (.acquire (stA Wg))] /\ g'.status = .running /\ Fin g' w₁
def Way1 (main : Bool) (ph : Ph L) (d : Nat) (τ : Terr) (g : Goroutine) (w : World) : Prop:=
 match ph with
 | .gone | .quit _ => False
 | .rel _ | .l1 _ | .l2 _ | .l3 _ => Idle1 P ty Wg K main ph d τ g w
 | _ => Own1 P ty Wg K main ph d τ g w
end
def Beh {L : Type} (P : Program) (ty : TypeId) (Wg : Nat) (A : Proto L) (Fin : Goroutine -> World -> Prop) : Rk -> Bool -> Ph L -> Nat -> Terr -> Goroutine -> World -> Prop
 | .mk ι f,main,ph,d,τ,g,w => g.status = .running /\
   (
     Way1 P ty Wg (λ m ph d τ g w => ∃ i,Beh P ty Wg A Fin (f i) m ph d τ g w) main ph d τ g w \/
     AtPh P ty Wg A Fin (λ m ph d τ g w => ∃ i,Beh P ty Wg A Fin (f i) m ph d τ g w) main ph d τ g w)
end Go.Mt
namespace Go.Mt
open Go.Conc
open Go.ConcR (KK wgBlock WgAt stA smA rd wr mk)
abbrev Cp:=Sum Nat Rk
def Cl : Cp -> Cp -> Prop:=Sum.Lex (· < ·) Rk.Child
theorem Cl.wf : WellFounded Cl:=by
 have hl : ∀ n : Nat,Acc Cl (.inl n):=λ n => by
  induction n using Nat.strongRecOn with
  | _ n ih => exact ⟨_,λ y h => by cases h with | inl h => exact ih _ h⟩
 refine ⟨λ x => ?_⟩
 cases x with
 | inl n => exact hl n
 | inr r =>
  induction r using Rk.wf.induction with
  | _ r ih => exact ⟨_,λ y h => by cases h with | inr h => exact ih _ h | sep => exact hl _⟩
def LexN (n : Nat) (f' f : Nat -> Cp) : Prop:=∃ i,i <= n /\ Cl (f' i) (f i) /\ ∀ j,j < i -> f' j = f j
theorem LexN.wf : ∀ n,WellFounded (LexN n):=by
 intro n
 induction n with
 | zero =>
  have : ∀ c,Acc Cl c -> ∀ f : Nat -> Cp,f 0 = c -> Acc (LexN 0) f:=by
   intro c hc
   induction hc with
   | intro c _ ih =>
    intro f hf
    refine ⟨_,λ f' h => ?_⟩
    obtain ⟨i,hi,hl,_⟩:=h
    have : i = 0:=by omega
    subst this
    exact ih _ (hf ▸ hl) f' rfl
  exact ⟨λ f => this _ (Cl.wf.apply _) f rfl⟩
 | succ n ih =>
  have : ∀ f₀,Acc (LexN n) f₀ -> ∀ c,Acc Cl c -> ∀ f : Nat -> Cp,(∀ j,j <= n -> f j = f₀ j) -> f (n + 1) = c -> Acc (LexN (n + 1)) f:=by
   intro f₀ h₀
   induction h₀ with
   | intro f₀ _ ih₀ =>
    intro c hc
    induction hc with
    | intro c _ ihc =>
     intro f hf hfc
     refine ⟨_,λ f' h => ?_⟩
     obtain ⟨i,hi,hl,he⟩:=h
     rcases Nat.lt_or_ge n i with hlt | hge
     ·have : i = n + 1:=by omega
      subst this
      exact ihc _ (hfc ▸ hl) f' (λ j hj => (he j (by omega)).trans (hf j hj)) rfl
     ·refine ih₀ f' ⟨i,hge,(hf i hge) ▸ hl,λ j hj => (he j hj).trans (hf j (by omega))⟩ _ (Cl.wf.apply (f' (n + 1))) f' (λ j _ => rfl) rfl
  exact ⟨λ f => this f (ih.apply f) _ (Cl.wf.apply _) f (λ _ _ => rfl) rfl⟩
abbrev Mu:=Nat × (Nat -> Cp)
def Mu.lt (x y : Mu) : Prop:=∃ i,i <= y.1 /\ Cl (x.2 i) (y.2 i) /\ (∀ j,j < i -> x.2 j = y.2 j) /\ (i ≠ 0 -> x.1 = y.1)
theorem Mu.wf : WellFounded Mu.lt:=by
 have : ∀ c,Acc Cl c -> ∀ n (f : Nat -> Cp),f 0 = c -> Acc Mu.lt (n,f):=by
  intro c hc
  induction hc with
  | intro c _ ih =>
   intro n f
   induction f using (LexN.wf n).induction with
   | _ f ihf =>
    intro hf
    refine ⟨_,λ y h => ?_⟩
    obtain ⟨n',f'⟩:=y
    obtain ⟨i,hi,hl,he,hn⟩:=h
    simp only at hi hl he hn
    by_cases h0 : i = 0
    ·subst h0
     exact ih _ (hf ▸ hl) n' f' rfl
    ·have:=hn h0
     subst this
     exact ihf f' ⟨i,hi,hl,he⟩ ((he 0 (by omega)).trans hf)
 exact ⟨λ x => this _ (Cl.wf.apply _) x.1 x.2 rfl⟩
theorem run_to {P : Program} {α : Type _} {r : α -> α -> Prop} (wf : WellFounded r) (Inv : α -> Machine -> Trace -> Prop) (Goal : Machine -> Trace -> Prop)
  (h : ∀ μ m t,Inv μ m t -> ∃ m' ops,stepT P m = (.next m',ops) /\ (Goal m' (t ++ ops) \/ ∃ μ',r μ' μ /\ Inv μ' m' (t ++ ops))) :
  ∀ μ m t,Inv μ m t -> ∃ n m' t',runNT P n m t = (.next m',t') /\ Goal m' t':=by
 intro μ
 induction μ using wf.induction with
 | _ μ ih =>
  intro m t hI
  obtain ⟨m',ops,hs,hg | ⟨μ',hr,hI'⟩⟩:=h μ m t hI
  ·exact ⟨1,m',t ++ ops,by simp [runNT,hs],hg⟩
  ·obtain ⟨n,m'',t',h1,h2⟩:=ih μ' hr m' (t ++ ops) hI'
   exact ⟨n + 1,m'',t',by rw [runNT_succ_next hs]; exact h1,h2⟩
section
variable {L : Type} {P : Program} {ty : TypeId} {Wg : Nat} {A : Proto L} {Fin : Goroutine -> World -> Prop}
variable {τ τ' : Terr} {w w₁ w₂ : World}
theorem Suf.refl : Suf ty Wg τ w w:=⟨rfl,rfl,rfl,Nat.le_refl _,λ _ _ => rfl,id⟩
theorem Suf.trans (h : Suf ty Wg τ w w₁) (k : Suf ty Wg τ w₁ w₂) : Suf ty Wg τ w w₂:=
 ⟨k.tape.trans h.tape,k.os.trans h.os,k.output.trans h.output,Nat.le_trans h.size k.size,λ b hb => (k.keep b hb).trans (h.keep b hb),λ x => k.live (h.live x)⟩
theorem Suf.mono (h : Suf ty Wg τ w w₁) (hs : ∀ b,τ'.own b \/ τ'.still b -> τ.own b \/ τ.still b) : Suf ty Wg τ' w w₁:=
 ⟨h.tape,h.os,h.output,h.size,λ b hb => h.keep b (hs b hb),h.live⟩
def Stable (ty : TypeId) (Wg : Nat) (K : Bool -> Ph L -> Nat -> Terr -> Goroutine -> World -> Prop) : Prop:=
 ∀ m ph d τ g w w₁,K m ph d τ g w -> Suf ty Wg τ w w₁ -> K m ph d τ g w₁
variable {K : Bool -> Ph L -> Nat -> Terr -> Goroutine -> World -> Prop}
theorem AtUsr.rely (hK : Stable ty Wg K) {main : Bool} {l : L} {d : Nat} {g : Goroutine} (h : AtUsr P ty Wg A K main l d τ g w) (s : Suf ty Wg τ w w₁) : AtUsr P ty Wg A K main l d τ g w₁:=by
 unfold AtUsr at *
 split
 ·rename_i c ok pub nx e
  simp only [e] at h
  obtain ⟨ho,v,z,τ',h1,h2,h3,h4,h4',h5,h6⟩:=h
  exact ⟨ho,v,z,τ',λ w₂ s₂ => h1 w₂ (s.trans s₂),h2,h3,h4,h4',λ a ha => ⟨(h5 a ha).1,(h5 a ha).2.1,(h5 a ha).2.2.1,(s.keep a (.inl (h5 a ha).1)).trans (h5 a ha).2.2.2⟩,
   hK _ _ _ _ _ _ _ h6 (s.mono λ b hb => hb.imp (h3 b) (λ x => h4 ▸ x))⟩
 ·rename_i c ok nx sh e
  simp only [e] at h
  obtain ⟨ho,z,b,h1,h2,h3⟩:=h
  exact ⟨ho,z,b,λ w₂ s₂ => h1 w₂ (s.trans s₂),λ v hv => hK _ _ _ _ _ _ _ (h2 v hv) s,λ x => hK _ _ _ _ _ _ _ (h3 x) s⟩
 ·rename_i c nx e
  simp only [e] at h
  exact ⟨h.1,h.2.1,λ w₂ s₂ => h.2.2 w₂ (s.trans s₂)⟩
 ·rename_i nx e
  simp only [e] at h
  exact λ w₂ s₂ => h w₂ (s.trans s₂)
 ·rename_i pub lc nx e
  simp only [e] at h
  exact ⟨h.1,λ w₂ s₂ => h.2 w₂ (s.trans s₂)⟩
 ·rename_i e
  simp only [e] at h
  exact ⟨h.1,h.2.1,λ w₂ s₂ => h.2.2.1 w₂ (s.trans s₂),λ w₂ s₂ => h.2.2.2 w₂ (s.trans s₂)⟩
 ·rename_i e
  simp only [e] at h
  exact λ w₂ s₂ => h w₂ (s.trans s₂)
theorem AtPh.rely (hK : Stable ty Wg K) {main : Bool} {ph : Ph L} {d : Nat} {g : Goroutine} (h : AtPh P ty Wg A Fin K main ph d τ g w) (s : Suf ty Wg τ w w₁) : AtPh P ty Wg A Fin K main ph d τ g w₁:=by
 cases ph with
 | gone => exact h
 | quit l => exact h
 | usr l => exact AtUsr.rely hK h s
 | l3 l => exact ⟨h.1,λ w₂ s₂ => h.2 w₂ (s.trans s₂)⟩
 | w3 => exact ⟨h.1,λ w₂ s₂ => h.2 w₂ (s.trans s₂)⟩
 | w5 => exact ⟨h.1,λ w₂ s₂ => h.2 w₂ (s.trans s₂)⟩
 | rel l => exact λ w₂ s₂ => h w₂ (s.trans s₂)
 | l1 l => exact λ w₂ s₂ => h w₂ (s.trans s₂)
 | l2 l => exact λ w₂ s₂ => h w₂ (s.trans s₂)
 | w1 b => exact λ w₂ s₂ => h w₂ (s.trans s₂)
 | w2 v => exact λ w₂ s₂ => h w₂ (s.trans s₂)
 | w4 => exact λ w₂ s₂ => h w₂ (s.trans s₂)
theorem Way1.rely {main : Bool} {ph : Ph L} {d : Nat} {g : Goroutine} (h : Way1 P ty Wg K main ph d τ g w) (s : Suf ty Wg τ w w₁) : Way1 P ty Wg K main ph d τ g w₁:=by
 cases ph <;> first | exact h | exact λ w₂ s₂ => h w₂ (s.trans s₂)
theorem Beh.rely : ∀ {r : Rk} {main : Bool} {ph : Ph L} {d : Nat} {τ : Terr} {g : Goroutine} {w w₁ : World},Beh P ty Wg A Fin r main ph d τ g w -> Suf ty Wg τ w w₁ -> Beh P ty Wg A Fin r main ph d τ g w₁:=by
 intro r
 induction r with
 | mk ι f ih =>
  intro main ph d τ g w w₁ h s
  refine ⟨h.1,h.2.imp (λ x => x.rely s) λ x => x.rely (λ m ph d τ g w w₁ ⟨i,hi⟩ s => ⟨i,ih i hi s⟩) s⟩
end
end Go.Mt
namespace Go.Mt
open Go.Conc
open Go.ConcR (KK wgBlock WgAt stA smA rd wr mk)
def onB (l : Loc) (b : Nat) : Prop:=match l with | .cell a => a.block = b | .obj r => r = b | _ => False
theorem onB_mem {l : Loc} {b : Nat} (h : onB l b) : l.isMemory = true:=by cases l <;> first | rfl | exact h.elim
theorem onB_inj {l : Loc} {b b' : Nat} (h : onB l b) (h' : onB l b') : b = b':=by cases l <;> first | exact h.symm.trans h' | exact h.elim
def Handed (Wg : Nat) (t : Trace) (i : Nat) : Prop:=∃ r,t.act? r = some (.mark (.releaseMerge (stA Wg))) /\ t.heard r /\ Before t i r
theorem Handed.app {Wg : Nat} {t : Trace} {i : Nat} (u : Trace) (h : Handed Wg t i) : Handed Wg (t ++ u) i:=by
 obtain ⟨r,h1,h2,h3⟩:=h
 have hr:=lt_of_act? h1
 exact ⟨r,by rw [act?_old hr]; exact h1,(heard_old hr).2 h2,h3.app u⟩
structure TI (Wg n : Nat) (own pas : Nat -> Nat -> Prop) (live : Nat -> Prop) (Shun : Loc -> Prop) (B : Nat) (t : Trace) : Prop where
 clean : ∀ said,¬ Race said t
 own : ∀ k b,live k -> own k b -> ∀ i a,touchAt t i = some a -> onB a.loc b -> Knows t k i
 pas : ∀ k b,live k -> pas k b -> ∀ i a,touchAt t i = some a -> onB a.loc b -> a.write = true -> Knows t k i
 grp : ∀ i a,touchAt t i = some a -> onB a.loc Wg -> a.kind = .atomic \/ (a.kind = .said /\ t.g? i = some 0)
 all : ∀ i a,touchAt t i = some a -> a.loc.isMemory = true -> (∃ k,live k /\ Knows t k i) \/ Handed Wg t i \/ ((Shun a.loc \/ onB a.loc Wg) /\ a.kind = .atomic)
 over : ∀ i g,t.g? i = some g -> g ≠ 0 -> t.counts i -> (∃ k,live k /\ Knows t k i) \/ Handed Wg t i \/ ∃ j,t.g? j = some 0 /\ HappensBefore t i j
 norel : ∀ k,t.act? k ≠ some (.mark (.release (stA Wg)))
 low : ∀ op ∈ t,op.act.low B
 above : ∀ j,n <= j -> Deaf t j = 0
section
variable {Wg n : Nat} {own own' pas pas' : Nat -> Nat -> Prop} {live live' : Nat -> Prop} {Shun : Loc -> Prop} {B B' : Nat} {t : Trace}
theorem touchAt_last (t : Trace) (y : MemOp) : touchAt (t ++ #[y]) t.size = y.act.touch?:=touchAt_of (by simp)
theorem touchAt_push {t : Trace} {y : MemOp} {i : Nat} {a : Touch} (h : touchAt (t ++ #[y]) i = some a) : (i < t.size /\ touchAt t i = some a) \/ (i = t.size /\ y.act.touch? = some a):=by
 obtain ⟨op,ho,hoa⟩:=touch_of h
 rcases getElem?_append_cases ho with ⟨hi,ho'⟩ | ⟨hi,hu⟩
 ·exact .inl ⟨hi,by rw [touchAt_of ho']; exact hoa⟩
 ·have hlt:=lt_size_of_getElem? ho
  simp only [Array.size_append,List.size_toArray,List.length_cons,List.length_nil] at hlt
  have : i = t.size:=by omega
  subst this
  rw [touchAt_last] at h
  exact .inr ⟨rfl,h⟩
theorem low_touch {B : Nat} {x : MemAct} {a : Touch} {b : Nat} (h : x.low B) (ht : x.touch? = some a) (hb : onB a.loc b) : b < B:=by
 cases x with
 | access e =>
  simp only [MemAct.touch?,Option.some.injEq] at ht
  subst ht
  obtain ⟨loc,wr,sy⟩:=e
  cases loc <;> first | exact hb ▸ h | exact hb.elim
 | mark m => cases m <;> simp only [MemAct.touch?,Option.some.injEq,reduceCtorEq] at ht <;> (subst ht; exact hb ▸ h)
 | _ => simp [MemAct.touch?] at ht
theorem TI.lowB (h : TI Wg n own pas live Shun B t) {i : Nat} {a : Touch} {b : Nat} (ht : touchAt t i = some a) (hb : onB a.loc b) : b < B:=by
 obtain ⟨op,ho,hoa⟩:=touch_of ht
 exact low_touch (h.low op (mem_of_getElem? ho)) hoa hb
theorem TI.less (h : TI Wg n own pas live Shun B t) (ho : ∀ k b,live k -> own' k b -> own k b \/ B <= b) (hp : ∀ k b,live k -> pas' k b -> pas k b \/ own k b \/ B <= b) (hB : B <= B') : TI Wg n own' pas' live Shun B' t:=
 ⟨h.clean,λ k b hk hb i a ha hl => (ho k b hk hb).elim (λ x => h.own k b hk x i a ha hl) (λ x => absurd (h.lowB ha hl) (by omega)),
  λ k b hk hb i a ha hl hw => (hp k b hk hb).elim (λ x => h.pas k b hk x i a ha hl hw) (λ x => x.elim (λ x => h.own k b hk x i a ha hl) (λ x => absurd (h.lowB ha hl) (by omega))),
  h.grp,h.all,h.over,h.norel,λ op hop => MemAct.low_mono hB (h.low op hop),h.above⟩
theorem knows_last {t : Trace} {y : MemOp} {k : Nat} (hg : y.g = k) : Knows (t ++ #[y]) k t.size:=⟨t.size,y,by simp,hg,.inl rfl⟩
theorem counts_push {t : Trace} {y : MemOp} {i g : Nat} (hg : (t ++ #[y]).g? i = some g) (hc : (t ++ #[y]).counts i) : (i < t.size /\ t.g? i = some g /\ t.counts i) \/ (i = t.size /\ y.g = g):=by
 obtain ⟨x,hx,hcc⟩:=hc
 have hlt : i < (t ++ #[y]).size:=by
  unfold Trace.g? at hg
  obtain ⟨z,hz,_⟩:=Option.map_eq_some_iff.1 hg
  exact lt_size_of_getElem? hz
 simp only [Array.size_append,List.size_toArray,List.length_cons,List.length_nil] at hlt
 rcases Nat.lt_or_ge i t.size with hi | hi
 ·refine .inl ⟨hi,by rw [g?_old hi] at hg; exact hg,x,?_,hcc.1,hcc.2.imp id λ z => (heard_old hi).1 z⟩
  rw [act?_old hi] at hx
  exact hx
 ·have : i = t.size:=by omega
  subst this
  refine .inr ⟨rfl,?_⟩
  simpa [Trace.g?] using hg
theorem TI.push (h : TI Wg n own pas live Shun B t) {y : MemOp} {k : Nat} (hk : live k) (hkn : k < n) (hg : y.g = k)
  (ht : ∀ a,y.act.touch? = some a -> (∃ b,b ≠ Wg /\ onB a.loc b /\ (own k b \/ (pas k b /\ a.write = false)) /\ ∀ k',live k' -> k' ≠ k -> ¬ own k' b /\ (a.write = true -> ¬ pas k' b)) \/ (onB a.loc Wg /\ (a.kind = .atomic \/ (a.kind = .said /\ k = 0)) /\ ∀ k',live k' -> ¬ own k' Wg /\ ¬ pas k' Wg) \/ a.loc.isMemory = false)
  (hr : y.act ≠ .mark (.release (stA Wg))) (hl : y.act.low B) : TI Wg n own pas live Shun B (t ++ #[y]):=by
 refine ⟨λ said => ?_,λ k' b hk' hb i a ha hon => ?_,λ k' b hk' hb i a ha hon hw => ?_,λ i a ha hon => ?_,λ i a ha hm => ?_,λ i g hgi hne hc => ?_,λ i e => ?_,λ op hop => ?_,λ j hj => ?_⟩
 ·refine noRace_append (g:=k) (h.clean said) (λ op hop => by simp at hop; rw [hop]; exact hg) λ i a ha op hop b hb hc => ?_
  have : op = y:=by simpa using hop
  subst this
  obtain ⟨hloc,hmem,hww,hkk⟩:=hc
  rcases ht b hb with ⟨bl,hbl,hon,hper,_⟩ | ⟨hon,hkd,_⟩ | hnm
  ·rcases hper with hper | ⟨hper,hwr⟩
   ·exact h.own k bl hk hper i a ha (hloc ▸ hon)
   ·exact h.pas k bl hk hper i a ha (hloc ▸ hon) (by simpa [hwr] using hww)
  ·have hga:=h.grp i a ha (hloc ▸ hon)
   rcases hkd with hkd | ⟨hkd,hk0⟩
   ·rw [hkd] at hkk
    rcases hga with hga | ⟨hga,_⟩ <;> rw [hga] at hkk <;> simp at hkk
   ·rcases hga with hga | ⟨hga,hg0⟩
    ·rw [hga,hkd] at hkk; simp at hkk
    ·obtain ⟨op0,ho0,_⟩:=touch_of ha
     have : op0.g = 0:=by simpa [Trace.g?,ho0] using hg0
     have:=knows_own ho0
     rw [‹op0.g = 0›] at this
     exact hk0 ▸ this
  ·rw [hloc,hnm] at hmem; cases hmem
 ·rcases touchAt_push ha with ⟨_,ha'⟩ | ⟨rfl,ha'⟩
  ·exact (h.own k' b hk' hb i a ha' hon).app _
  ·by_cases hkk : k' = k
   ·exact hkk ▸ knows_last hg
   ·rcases ht a ha' with ⟨bl,hbl,hon',_,hap⟩ | ⟨hon',_,hap⟩ | hnm
    ·exact absurd (onB_inj hon hon' ▸ hb) (hap k' hk' hkk).1
    ·exact absurd (onB_inj hon hon' ▸ hb) (hap k' hk').1
    ·rw [onB_mem hon] at hnm; cases hnm
 ·rcases touchAt_push ha with ⟨_,ha'⟩ | ⟨rfl,ha'⟩
  ·exact (h.pas k' b hk' hb i a ha' hon hw).app _
  ·by_cases hkk : k' = k
   ·exact hkk ▸ knows_last hg
   ·rcases ht a ha' with ⟨bl,hbl,hon',_,hap⟩ | ⟨hon',_,hap⟩ | hnm
    ·exact absurd (onB_inj hon hon' ▸ hb) ((hap k' hk' hkk).2 hw)
    ·exact absurd (onB_inj hon hon' ▸ hb) (hap k' hk').2
    ·rw [onB_mem hon] at hnm; cases hnm
 ·rcases touchAt_push ha with ⟨hi,ha'⟩ | ⟨rfl,ha'⟩
  ·exact (h.grp i a ha' hon).imp id λ x => ⟨x.1,by rw [g?_old hi]; exact x.2⟩
  ·rcases ht a ha' with ⟨bl,hbl,hon',_,hap⟩ | ⟨hon',hkd,_⟩ | hnm
   ·exact absurd (onB_inj hon' hon) hbl
   ·exact hkd.imp id λ x => ⟨x.1,by simp [Trace.g?,hg,x.2]⟩
   ·rw [onB_mem hon] at hnm; cases hnm
 ·rcases touchAt_push ha with ⟨_,ha'⟩ | ⟨rfl,ha'⟩
  ·rcases h.all i a ha' hm with ⟨k',hk',hkn'⟩ | hh | hs
   ·exact .inl ⟨k',hk',hkn'.app _⟩
   ·exact .inr (.inl (hh.app _))
   ·exact .inr (.inr hs)
  ·exact .inl ⟨k,hk,knows_last hg⟩
 ·rcases counts_push hgi hc with ⟨hi,hgi',hc'⟩ | ⟨rfl,hgi'⟩
  ·rcases h.over i g hgi' hne hc' with ⟨k',hk',hkn'⟩ | hh | ⟨j,hj,hb⟩
   ·exact .inl ⟨k',hk',hkn'.app _⟩
   ·exact .inr (.inl (hh.app _))
   ·refine .inr (.inr ⟨j,?_,hb_app _ hb⟩)
    have hjl : j < t.size:=by
     unfold Trace.g? at hj
     obtain ⟨z,hz,_⟩:=Option.map_eq_some_iff.1 hj
     exact lt_size_of_getElem? hz
    rw [g?_old hjl]; exact hj
  ·exact .inl ⟨k,hk,knows_last hg⟩
 ·have hlt:=lt_of_act? e
  simp only [Array.size_append,List.size_toArray,List.length_cons,List.length_nil] at hlt
  rcases Nat.lt_or_ge i t.size with hi | hi
  ·rw [act?_old hi] at e; exact h.norel i e
  ·have : i = t.size:=by omega
   subst this
   exact hr (by simpa [Trace.act?] using e)
 ·rcases Array.mem_append.1 hop with hop | hop
  ·exact h.low op hop
  ·have : op = y:=by simpa using hop
   exact this ▸ hl
 ·rw [Deaf_other t (g':=k) (by omega) _ (λ op hop => by simp at hop; rw [hop]; exact hg)]; exact h.above j hj
theorem TI.idle (h : TI Wg n own pas live Shun B t) {y : MemOp} (hkn : y.g < n)
  (ht : ∀ a,y.act.touch? = some a -> onB a.loc Wg /\ a.kind = .atomic /\ 0 < Deaf t y.g /\ ∀ k',live k' -> ¬ own k' Wg /\ ¬ pas k' Wg)
  (hr : y.act ≠ .mark (.release (stA Wg))) (hl : y.act.low B) : TI Wg n own pas live Shun B (t ++ #[y]):=by
 have hnh : ∀ a,y.act.touch? = some a -> ¬ (t ++ #[y]).heard t.size:=by
  rintro a ha ⟨g,hg,hd⟩
  have : y.g = g:=by simpa [Trace.g?] using hg
  rw [deaf_old (Nat.le_refl _),<- this] at hd
  have:=(ht a ha).2.2.1
  unfold Deaf at this
  omega
 refine ⟨λ said => ?_,λ k' b hk' hb i a ha hon => ?_,λ k' b hk' hb i a ha hon hw => ?_,λ i a ha hon => ?_,λ i a ha hm => ?_,λ i g hgi hne hc => ?_,λ i e => ?_,λ op hop => ?_,λ j hj => ?_⟩
 ·refine noRace_append (g:=y.g) (h.clean said) (λ op hop => by simp at hop; rw [hop]) λ i a ha op hop b hb hc => ?_
  have : op = y:=by simpa using hop
  subst this
  obtain ⟨hloc,hmem,hww,hkk⟩:=hc
  obtain ⟨hon,hkd,_,_⟩:=ht b hb
  have hga:=h.grp i a ha (hloc ▸ hon)
  rw [hkd] at hkk
  rcases hga with hga | ⟨hga,_⟩ <;> rw [hga] at hkk <;> simp at hkk
 ·rcases touchAt_push ha with ⟨_,ha'⟩ | ⟨rfl,ha'⟩
  ·exact (h.own k' b hk' hb i a ha' hon).app _
  ·obtain ⟨hon',_,_,hap⟩:=ht a ha'
   exact absurd (onB_inj hon hon' ▸ hb) (hap k' hk').1
 ·rcases touchAt_push ha with ⟨_,ha'⟩ | ⟨rfl,ha'⟩
  ·exact (h.pas k' b hk' hb i a ha' hon hw).app _
  ·obtain ⟨hon',_,_,hap⟩:=ht a ha'
   exact absurd (onB_inj hon hon' ▸ hb) (hap k' hk').2
 ·rcases touchAt_push ha with ⟨hi,ha'⟩ | ⟨rfl,ha'⟩
  ·exact (h.grp i a ha' hon).imp id λ x => ⟨x.1,by rw [g?_old hi]; exact x.2⟩
  ·exact .inl (ht a ha').2.1
 ·rcases touchAt_push ha with ⟨_,ha'⟩ | ⟨rfl,ha'⟩
  ·rcases h.all i a ha' hm with ⟨k',hk',hkn'⟩ | hh | hs
   ·exact .inl ⟨k',hk',hkn'.app _⟩
   ·exact .inr (.inl (hh.app _))
   ·exact .inr (.inr hs)
  ·exact .inr (.inr ⟨.inr (ht a ha').1,(ht a ha').2.1⟩)
 ·obtain ⟨x,hx,hmx,hcx⟩:=id hc
  rcases counts_push hgi hc with ⟨hi,hgi',hc'⟩ | ⟨rfl,hgi'⟩
  ·rcases h.over i g hgi' hne hc' with ⟨k',hk',hkn'⟩ | hh | ⟨j,hj,hb⟩
   ·exact .inl ⟨k',hk',hkn'.app _⟩
   ·exact .inr (.inl (hh.app _))
   ·refine .inr (.inr ⟨j,?_,hb_app _ hb⟩)
    have hjl : j < t.size:=by
     unfold Trace.g? at hj
     obtain ⟨z,hz,_⟩:=Option.map_eq_some_iff.1 hj
     exact lt_size_of_getElem? hz
    rw [g?_old hjl]; exact hj
  ·have hy : y.act.touch? = some x:=by rw [<- touchAt_last t y]; exact hx
   exact (hcx.elim (λ z => z (ht x hy).2.1) (hnh x hy)).elim
 ·have hlt:=lt_of_act? e
  simp only [Array.size_append,List.size_toArray,List.length_cons,List.length_nil] at hlt
  rcases Nat.lt_or_ge i t.size with hi | hi
  ·rw [act?_old hi] at e; exact h.norel i e
  ·have : i = t.size:=by omega
   subst this
   exact hr (by simpa [Trace.act?] using e)
 ·rcases Array.mem_append.1 hop with hop | hop
  ·exact h.low op hop
  ·have : op = y:=by simpa using hop
   exact this ▸ hl
 ·rw [Deaf_other t (g':=y.g) (by omega) _ (λ op hop => by simp at hop; rw [hop])]; exact h.above j hj
theorem TI.release (h : TI Wg n own pas live Shun B t) {y : MemOp} {k : Nat} (hkn : k < n) (hg : y.g = k) (hy : y.act = .mark (.releaseMerge (stA Wg))) (hd : Deaf t k = 0)
  (hWB : Wg < B) (hlive : ∀ j,live' j -> live j) (hone : ∀ j,live j -> live' j \/ j = k) : TI Wg n own pas live' Shun B (t ++ #[y]):=by
 have h1:=h.idle (y:=y) (by omega) (λ a ha => by rw [hy] at ha; simp [MemAct.touch?] at ha) (by rw [hy]; simp) (by rw [hy]; exact hWB)
 have hlast : (t ++ #[y])[t.size]? = some y:=by simp
 have hnew : ∀ i,Knows t k i -> Handed Wg (t ++ #[y]) i:=λ i hi =>
  ⟨t.size,by rw [act?_of hlast,hy],⟨k,by simp [Trace.g?,hg],by rw [deaf_old (Nat.le_refl _)]; exact hd⟩,.inr (hi.hb_new (Nat.le_refl _) hlast hg)⟩
 have hself : Handed Wg (t ++ #[y]) t.size:=⟨t.size,by rw [act?_of hlast,hy],⟨k,by simp [Trace.g?,hg],by rw [deaf_old (Nat.le_refl _)]; exact hd⟩,.inl rfl⟩
 refine ⟨h1.clean,λ k' b hk' => h1.own k' b (hlive k' hk'),λ k' b hk' => h1.pas k' b (hlive k' hk'),h1.grp,λ i a ha hm => ?_,λ i g hgi hne hc => ?_,h1.norel,h1.low,h1.above⟩
 ·rcases touchAt_push ha with ⟨_,ha'⟩ | ⟨rfl,ha'⟩
  ·rcases h.all i a ha' hm with ⟨k',hk',hkn'⟩ | hh | hs
   ·rcases hone k' hk' with x | rfl
    ·exact .inl ⟨k',x,hkn'.app _⟩
    ·exact .inr (.inl (hnew i hkn'))
   ·exact .inr (.inl (hh.app _))
   ·exact .inr (.inr hs)
  ·rw [hy] at ha'; simp [MemAct.touch?] at ha'
 ·rcases counts_push hgi hc with ⟨hi,hgi',hc'⟩ | ⟨rfl,hgi'⟩
  ·rcases h.over i g hgi' hne hc' with ⟨k',hk',hkn'⟩ | hh | ⟨j,hj,hb⟩
   ·rcases hone k' hk' with x | rfl
    ·exact .inl ⟨k',x,hkn'.app _⟩
    ·exact .inr (.inl (hnew i hkn'))
   ·exact .inr (.inl (hh.app _))
   ·refine .inr (.inr ⟨j,?_,hb_app _ hb⟩)
    have hjl : j < t.size:=by
     unfold Trace.g? at hj
     obtain ⟨z,hz,_⟩:=Option.map_eq_some_iff.1 hj
     exact lt_size_of_getElem? hz
    rw [g?_old hjl]; exact hj
  ·exact .inr (.inl hself)
theorem TI.fork (h : TI Wg n own pas live Shun B t) {x y : MemOp} (h0 : live 0) (h0n : 0 < n) (hx : x.g = 0 /\ x.act = .go n) (hy : y.g = n /\ y.act = .start) (hd : Deaf t 0 = 0)
  (hlive : ∀ j,live' j ↔ (live j \/ j = n)) (hln : ¬ live n) (hoo : ∀ k b,live k -> k ≠ 0 -> own' k b -> own k b) (hpp : ∀ k b,live k -> k ≠ 0 -> pas' k b -> pas k b)
  (ho : ∀ b,own' 0 b \/ own' n b -> own 0 b) (hp : ∀ b,pas' 0 b \/ pas' n b -> own 0 b \/ pas 0 b) : TI Wg (n + 1) own' pas' live' Shun B (t ++ #[x,y]):=by
 have hdn : Deaf t n = 0:=h.above n (Nat.le_refl _)
 have e2 : t ++ #[x,y] = (t ++ #[x]) ++ #[y]:=by apply Array.ext'; simp
 have hn : TI Wg (n + 1) own pas live Shun B t:=⟨h.clean,h.own,h.pas,h.grp,h.all,h.over,h.norel,h.low,λ j hj => h.above j (by omega)⟩
 have h1:=hn.idle (y:=x) (by rw [hx.1]; omega) (λ a ha => by rw [hx.2] at ha; simp [MemAct.touch?] at ha) (by rw [hx.2]; simp) (by rw [hx.2]; trivial)
 have h2:=h1.idle (y:=y) (by rw [hy.1]; omega) (λ a ha => by rw [hy.2] at ha; simp [MemAct.touch?] at ha) (by rw [hy.2]; simp) (by rw [hy.2]; trivial)
 rw [<- e2] at h2
 have old : ∀ {i : Nat} {a : Touch},touchAt (t ++ #[x,y]) i = some a -> touchAt t i = some a:=by
  intro i a ha
  rw [e2] at ha
  rcases touchAt_push ha with ⟨_,ha'⟩ | ⟨_,ha'⟩
  ·rcases touchAt_push ha' with ⟨_,ha''⟩ | ⟨_,ha''⟩
   ·exact ha''
   ·rw [hx.2] at ha''; simp [MemAct.touch?] at ha''
  ·rw [hy.2] at ha'; simp [MemAct.touch?] at ha'
 have fk : ∀ {i : Nat},Knows t 0 i -> Knows (t ++ #[x,y]) n i:=λ {i} hi => Go.ConcN.fork_knows hx hy hd hdn hi
 refine ⟨h2.clean,λ k b hk hb i a ha hon => ?_,λ k b hk hb i a ha hon hw => ?_,h2.grp,λ i a ha hm => ?_,λ i g hgi hne hc => ?_,h2.norel,h2.low,h2.above⟩
 ·rcases (hlive k).1 hk with hk' | rfl
  ·by_cases hk0 : k = 0
   ·subst hk0; exact h2.own 0 b h0 (ho b (.inl hb)) i a ha hon
   ·exact h2.own k b hk' (hoo k b hk' hk0 hb) i a ha hon
  ·exact fk (h.own 0 b h0 (ho b (.inr hb)) i a (old ha) hon)
 ·rcases (hlive k).1 hk with hk' | rfl
  ·by_cases hk0 : k = 0
   ·subst hk0
    exact (hp b (.inl hb)).elim (λ z => h2.own 0 b h0 z i a ha hon) (λ z => h2.pas 0 b h0 z i a ha hon hw)
   ·exact h2.pas k b hk' (hpp k b hk' hk0 hb) i a ha hon hw
  ·exact (hp b (.inr hb)).elim (λ z => fk (h.own 0 b h0 z i a (old ha) hon)) (λ z => fk (h.pas 0 b h0 z i a (old ha) hon hw))
 ·exact (h2.all i a ha hm).imp (λ ⟨k,hk,hkn⟩ => ⟨k,(hlive k).2 (.inl hk),hkn⟩) id
 ·exact (h2.over i g hgi hne hc).imp (λ ⟨k,hk,hkn⟩ => ⟨k,(hlive k).2 (.inl hk),hkn⟩) id
theorem TI.acquire (h : TI Wg n own pas live Shun B t) {y : MemOp} (h0n : 0 < n) (hg : y.g = 0) (hy : y.act = .mark (.acquire (stA Wg))) (hd : Deaf t 0 = 0) (hWB : Wg < B) (hone : ∀ j,live j -> j = 0) :
  Past (λ l => Shun l \/ onB l Wg) B (t ++ #[y]) /\ ∀ j,n <= j -> Deaf (t ++ #[y]) j = 0:=by
 have h1:=h.idle (y:=y) (by omega) (λ a ha => by rw [hy] at ha; simp [MemAct.touch?] at ha) (by rw [hy]; simp) (by rw [hy]; exact hWB)
 have hlast : (t ++ #[y])[t.size]? = some y:=by simp
 have hh : (t ++ #[y]).heard t.size:=⟨0,by simp [Trace.g?,hg],by rw [deaf_old (Nat.le_refl _)]; exact hd⟩
 have got : ∀ i,i < t.size -> Handed Wg t i -> HappensBefore (t ++ #[y]) i t.size:=by
  rintro i hi ⟨r,hr1,hr2,hr3⟩
  have hrl:=lt_of_act? hr1
  have edge : HappensBefore (t ++ #[y]) r t.size:=.single (.inr ⟨.marked hrl (.inr (by rw [act?_old hrl]; exact hr1)) (by rw [act?_of hlast,hy]) (λ k hk1 hk2 => h1.norel k),(heard_old hrl).2 hr2,hh⟩)
  exact (hr3.app _).hb edge
 have hlastK : ∀ i,HappensBefore (t ++ #[y]) i t.size -> Knows (t ++ #[y]) 0 i:=λ i hb => ⟨t.size,y,hlast,hg,.inr hb⟩
 refine ⟨⟨h1.clean,λ i a ha hm => ?_,λ i g hgi hne hc => ?_,?_,h1.low⟩,h1.above⟩
 ·rcases touchAt_push ha with ⟨hi,ha'⟩ | ⟨rfl,ha'⟩
  ·rcases h.all i a ha' hm with ⟨k,hk,hkn⟩ | hh | hs
   ·have:=hone k hk; subst this; exact .inl (hkn.app _)
   ·exact .inl (hlastK i (got i hi hh))
   ·exact .inr hs
  ·rw [hy] at ha'; simp [MemAct.touch?] at ha'
 ·rcases counts_push hgi hc with ⟨hi,hgi',hc'⟩ | ⟨rfl,hgi'⟩
  ·rcases h.over i g hgi' hne hc' with ⟨k,hk,hkn⟩ | hh | ⟨j,hj,hb⟩
   ·have:=hone k hk; subst this
    exact ⟨t.size,by simp [Trace.g?,hg],hkn.hb_new (Nat.le_refl _) hlast hg⟩
   ·exact ⟨t.size,by simp [Trace.g?,hg],got i hi hh⟩
   ·refine ⟨j,?_,hb_app _ hb⟩
    have hjl : j < t.size:=by
     unfold Trace.g? at hj
     obtain ⟨z,hz,_⟩:=Option.map_eq_some_iff.1 hj
     exact lt_size_of_getElem? hz
    rw [g?_old hjl]; exact hj
  ·exact absurd (hgi'.symm.trans hg) hne
 ·rw [Deaf_push]; simp [deafStep,hy,hd]
theorem TI.begin (hP : Past Shun B t) (hB : B <= B') (hgs : ∀ j,n <= j -> Deaf t j = 0) (hlive : ∀ j,live j ↔ j = 0) (ho : ∀ b,own 0 b \/ pas 0 b -> ∀ l,onB l b -> ¬ Shun l)
  (hW : B <= Wg) : TI Wg n own pas live Shun B' t:=by
 have hlow : ∀ {i : Nat} {a : Touch} {b : Nat},touchAt t i = some a -> onB a.loc b -> b < B:=λ {i a b} ha hb => by
  obtain ⟨op,ho,hoa⟩:=touch_of ha
  exact low_touch (hP.seen op (mem_of_getElem? ho)) hoa hb
 refine ⟨hP.clean,λ k b hk hb i a ha hon => ?_,λ k b hk hb i a ha hon hw => ?_,λ i a ha hon => ?_,λ i a ha hm => ?_,λ i g hgi hne hc => .inr (.inr (hP.over i g hgi hne hc)),λ k e => ?_,λ op hop => MemAct.low_mono hB (hP.seen op hop),hgs⟩
 ·have:=(hlive k).1 hk; subst this
  rcases hP.known i a ha (onB_mem hon) with x | ⟨x,_⟩
  ·exact x
  ·exact absurd x (ho b (.inl hb) _ hon)
 ·have:=(hlive k).1 hk; subst this
  rcases hP.known i a ha (onB_mem hon) with x | ⟨x,_⟩
  ·exact x
  ·exact absurd x (ho b (.inr hb) _ hon)
 ·have:=hlow ha hon; omega
 ·exact (hP.known i a ha hm).imp (λ x => ⟨0,(hlive 0).2 rfl,x⟩) λ x => .inr ⟨.inl x.1,x.2⟩
 ·obtain ⟨op,ho,hoa⟩:=Option.map_eq_some_iff.1 e
  have:=hP.seen op (mem_of_getElem? ho)
  rw [hoa] at this
  simp only [MemAct.low,stA] at this
  omega
end
end Go.Mt
namespace Go.Mt
open Go.Conc
open Go.ConcR (KK wgBlock WgAt stA smA rd wr mk)
theorem upd_same {α : Type _} (f : Nat -> α) (i : Nat) (x : α) : upd f i x i = x:=by simp [upd]
theorem upd_ne {α : Type _} (f : Nat -> α) {i j : Nat} (x : α) (h : j ≠ i) : upd f i x j = f j:=by simp [upd,h]
section
variable {L : Type}
def Ph.live : Ph L -> Prop | .usr _ | .w1 _ | .w2 _ | .w3 | .w4 | .w5 => True | _ => False
def Ph.waits : Ph L -> Prop | .w1 _ | .w2 _ | .w3 | .w4 | .w5 => True | _ => False
def Ph.pre : Ph L -> Bool | .usr _ | .rel _ => true | _ => false
def Ph.last : Ph L -> Prop | .l1 _ | .l2 _ | .l3 _ => True | _ => False
structure Td (L : Type) where
 ph : Ph L
 r : Cp
 τ : Terr
 g : Goroutine
def cnt (p : Nat -> Ph L) : Nat -> Nat
 | 0 => 0
 | n + 1 => cnt p n + (if n ≠ 0 /\ (p n).pre = true then 1 else 0)
def pnd (A : Proto L) (p : Nat -> Ph L) : Nat:=match p 0 with | .usr l => if A.pend l then 1 else 0 | _ => 0
def vv (A : Proto L) (p : Nat -> Ph L) (n : Nat) : Nat:=cnt p n + pnd A p
def Grp (A : Proto L) (ty : TypeId) (Wg : Nat) (p : Nat -> Ph L) (n : Nat) (w : World) : Prop:=
 match p 0 with
 | .usr _ => WgAt ty Wg w (vv A p n * KK) 0 /\ ∀ i,¬ (p i).last
 | .w1 b => WgAt ty Wg w (vv A p n * KK) 0 /\ (∀ i,¬ (p i).last) /\ vv A p n < b
 | .w2 vs => WgAt ty Wg w (vv A p n * KK) 0 /\ (∀ i,¬ (p i).last) /\ vv A p n <= vs /\ 0 < vs
 | .w3 => (0 < vv A p n /\ WgAt ty Wg w (vv A p n * KK + 1) 0 /\ ∀ i,¬ (p i).last) \/
   (vv A p n = 0 /\ ∃ i l,(∀ j,(p j).last -> j = i) /\ (((p i = .l1 l \/ p i = .l2 l) /\ WgAt ty Wg w 1 0) \/ (p i = .l3 l /\ WgAt ty Wg w 0 0))) \/
   (vv A p n = 0 /\ (∀ i,¬ (p i).last) /\ WgAt ty Wg w 0 1)
 | .w4 | .w5 => vv A p n = 0 /\ (∀ i,¬ (p i).last) /\ WgAt ty Wg w 0 0
 | _ => False
theorem cnt_upd_ge (p : Nat -> Ph L) {i n : Nat} (x : Ph L) (h : n <= i) : cnt (upd p i x) n = cnt p n:=by
 induction n with
 | zero => rfl
 | succ n ih => simp only [cnt,ih (by omega),upd_ne p x (show n ≠ i by omega)]
theorem cnt_upd0 (p : Nat -> Ph L) (n : Nat) (x : Ph L) : cnt (upd p 0 x) n = cnt p n:=by
 induction n with
 | zero => rfl
 | succ n ih =>
  simp only [cnt,ih]
  by_cases h : n = 0
  ·simp [h]
  ·rw [upd_ne p x h]
theorem cnt_upd (p : Nat -> Ph L) {i n : Nat} (x : Ph L) (h : i < n) (h0 : i ≠ 0) : cnt (upd p i x) n + (if (p i).pre = true then 1 else 0) = cnt p n + (if x.pre = true then 1 else 0):=by
 induction n with
 | zero => omega
 | succ n ih =>
  simp only [cnt]
  by_cases hi : i = n
  ·subst hi
   rw [cnt_upd_ge p x (Nat.le_refl _),upd_same]
   simp only [ne_eq,h0,not_false_eq_true,true_and]
   omega
  ·have:=ih (by omega)
   rw [upd_ne p x (show n ≠ i from λ e => hi e.symm)]
   omega
theorem pre_le (ph : Ph L) (q : Prop) [Decidable q] : (if q /\ ph.pre = true then 1 else 0) <= ph.proj.c:=by
 cases ph <;> simp [Ph.pre,Ph.proj,Pj.c]
 all_goals (split <;> omega)
theorem vv_le_num (A : Proto L) (p : Nat -> Ph L) (n : Nat) (h : 0 < n) : vv A p n <= num (λ i => (p i).proj) n:=by
 have key : ∀ n,0 < n -> cnt p n + (p 0).proj.c <= num (λ i => (p i).proj) n:=by
  intro n
  induction n with
  | zero => omega
  | succ n ih =>
   intro _
   by_cases hn : n = 0
   ·subst hn; simp [cnt,num]
   ·have:=ih (by omega)
    have h2:=pre_le (p n) (n ≠ 0)
    simp only [cnt,num]
    omega
 have h1:=key n h
 have h2 : pnd A p <= (p 0).proj.c:=by
  unfold pnd
  cases p 0 <;> simp only [Ph.proj,Pj.c] <;> first | omega | (split <;> omega)
 unfold vv
 omega
def Awake (x g : Goroutine) : Prop:=x.status = .running /\ x.frame = g.frame /\ x.callers = g.callers /\ x.dying = g.dying
theorem Awake.self {g : Goroutine} (h : g.status = .running) : Awake g g:=⟨h,rfl,rfl,rfl⟩
theorem Awake.step {P : Program} {main : Bool} {x g : Goroutine} (h : Awake x g) (w : World) : stepG P main x w = stepG P main g w:=stepG_same h.2.1 h.2.2.1 h.2.2.2 w
variable (P : Program) (ty : TypeId) (Wg : Nat) (A : Proto L) (Fin : Goroutine -> World -> Prop)
def ParkC (main : Bool) (T : Td L) (x : Goroutine) (w : World) : Prop:=
 ∃ l cs sh,T.ph = .usr l /\ x = parked T.g cs sh /\ (∀ w₁,Suf ty Wg T.τ w w₁ -> stepG P main T.g w₁ = .comm T.g cs true sh w₁ #[]) /\
  ((∃ c ok pub nx v z,A.act l = .send c ok pub nx /\ cs = #[scase c v z] /\ sh = .send) \/ (∃ c ok nx s z b,A.act l = .recv c ok nx s /\ cs = #[rcase c z] /\ sh = .recv b))
def ParkW (T : Td L) (x : Goroutine) : Prop:=T.ph = .w3 /\ x = { T.g with status:=.blocked } /\ T.g.offers = none
def Sits (i : Nat) (T : Td L) (d : Nat) (x : Goroutine) (w : World) : Prop:=
 match T.ph with
 | .gone | .quit _ => ∃ q,T.r = .inl q /\ QuitsD P q d x
 | _ => ∃ r,T.r = .inr r /\ Beh P ty Wg A Fin r (i == 0) T.ph d T.τ T.g w /\ (Awake x T.g \/ ParkC P ty Wg A (i == 0) T x w \/ ParkW T x)
def Ph.leaves : Ph L -> Prop | .gone | .quit _ => True | _ => False
theorem sits_leaves {P : Program} {ty : TypeId} {Wg : Nat} {A : Proto L} {Fin : Goroutine -> World -> Prop} {i : Nat} {T : Td L} {d : Nat} {x : Goroutine} {w : World} (h : T.ph.leaves) :
  Sits P ty Wg A Fin i T d x w ↔ ∃ q,T.r = .inl q /\ QuitsD P q d x:=by
 obtain ⟨ph,r,τ,g⟩:=T
 cases ph <;> first | exact Iff.rfl | exact h.elim
theorem sits_stays {P : Program} {ty : TypeId} {Wg : Nat} {A : Proto L} {Fin : Goroutine -> World -> Prop} {i : Nat} {T : Td L} {d : Nat} {x : Goroutine} {w : World} (h : ¬ T.ph.leaves) :
  Sits P ty Wg A Fin i T d x w ↔ ∃ r,T.r = .inr r /\ Beh P ty Wg A Fin r (i == 0) T.ph d T.τ T.g w /\ (Awake x T.g \/ ParkC P ty Wg A (i == 0) T x w \/ ParkW T x):=by
 obtain ⟨ph,r,τ,g⟩:=T
 cases ph <;> first | exact Iff.rfl | exact absurd trivial h
variable {P : Program} {ty : TypeId} {Wg : Nat} {A : Proto L} {Fin : Goroutine -> World -> Prop}
theorem woken_parked (a a' g : Goroutine) (cs : Array CommCase) (sh : CommShape) (w : World) : woken P a a' w (parked g cs sh) = parked g cs sh \/ woken P a a' w (parked g cs sh) = { parked g cs sh with status:=.running }:=by
 unfold woken
 split
 ·unfold Goroutine.again
  simp only [parked]
  split
  ·exact .inr rfl
  ·exact .inl rfl
 ·exact .inl rfl
theorem woken_running {a a' x : Goroutine} {w : World} (h : x.status = .running) : woken P a a' w x = x:=woken_run h
theorem Sits.other {i : Nat} {T : Td L} {d : Nat} {x : Goroutine} {w w' : World} (h : Sits P ty Wg A Fin i T d x w) (s : Suf ty Wg T.τ w w') (a a' : Goroutine) : Sits P ty Wg A Fin i T d (woken P a a' w' x) w':=by
 by_cases hl : T.ph.leaves
 ·rw [sits_leaves hl] at h ⊢
  obtain ⟨q,hq,hQ⟩:=h
  exact ⟨q,hq,by rw [woken_quitsD hQ]; exact hQ⟩
 ·rw [sits_stays hl] at h ⊢
  obtain ⟨r,hr,hB,hx⟩:=h
  refine ⟨r,hr,hB.rely s,?_⟩
  rcases hx with hx | ⟨l,cs,sh,h1,rfl,h3,h4⟩ | ⟨h1,rfl,h3⟩
  ·rw [woken_running hx.1]; exact .inl hx
  ·rcases woken_parked (P:=P) a a' T.g cs sh w' with e | e
   ·rw [e]; exact .inr (.inl ⟨l,cs,sh,h1,rfl,λ w₁ s₁ => h3 w₁ (s.trans s₁),h4⟩)
   ·rw [e]; exact .inl ⟨rfl,rfl,rfl,rfl⟩
  ·unfold woken
   split
   ·left
    simp only [Goroutine.again,h3]
    exact ⟨rfl,rfl,rfl,rfl⟩
   ·exact .inr (.inr ⟨h1,rfl,h3⟩)
theorem Sits.rely {i : Nat} {T : Td L} {d : Nat} {x : Goroutine} {w w' : World} (h : Sits P ty Wg A Fin i T d x w) (s : Suf ty Wg T.τ w w') : Sits P ty Wg A Fin i T d x w':=by
 by_cases hl : T.ph.leaves
 ·rw [sits_leaves hl] at h ⊢; exact h
 ·rw [sits_stays hl] at h ⊢
  obtain ⟨r,hr,hB,hx⟩:=h
  refine ⟨r,hr,hB.rely s,hx.imp id (Or.imp ?_ id)⟩
  rintro ⟨l,cs,sh,h1,h2,h3,h4⟩
  exact ⟨l,cs,sh,h1,h2,λ w₁ s₁ => h3 w₁ (s.trans s₁),h4⟩
theorem Sits.status {i : Nat} {T : Td L} {d : Nat} {x : Goroutine} {w : World} (h : Sits P ty Wg A Fin i T d x w) : x.status = .running \/ x.status = .finished \/ x.status = .blocked:=by
 by_cases hl : T.ph.leaves
 ·rw [sits_leaves hl] at h
  obtain ⟨q,hq,hQ⟩:=h
  exact hQ.status.imp id .inl
 ·rw [sits_stays hl] at h
  obtain ⟨r,hr,hB,hx | ⟨l,cs,sh,h1,rfl,h3,h4⟩ | ⟨h1,rfl,h3⟩⟩:=h
  ·exact .inl hx.1
  ·exact .inr (.inr rfl)
  ·exact .inr (.inr rfl)
structure Stat (n : Nat) (w : World) (T : Nat -> Td L) (ch : Chs) : Prop where
 n0 : 0 < n
 out : ∀ i,n <= i -> (T i).ph = .gone
 role0 : (T 0).ph.live
 role : ∀ i,i ≠ 0 -> ¬ (T i).ph.waits
 nil : ∀ i,(T i).ph = .gone -> ∀ b,¬ (T i).τ.own b /\ ¬ (T i).τ.still b /\ ¬ (T i).τ.pass b
 sep : ∀ i j b,i ≠ j -> (T i).τ.own b -> ¬ (T j).τ.own b /\ ¬ (T j).τ.still b /\ ¬ (T j).τ.pass b
 bnd : ∀ i b,(T i).τ.own b \/ (T i).τ.still b -> b < w.heap.size /\ b ≠ Wg /\ ch b = none
 pas : ∀ i b,(T i).τ.pass b -> b < w.heap.size /\ b ≠ Wg
 depo : ∀ i l,(T i).ph.proj = .over l -> ∀ w₁,Suf ty Wg (T i).τ w w₁ -> A.dep l w₁
 chan : ∀ c b,ch c = some b -> c ≠ Wg /\ ∃ s r,w.heap[c]? = some (.chan 0 #[] b s r false)
 grp : Grp A ty Wg (λ i => (T i).ph) n w
 inv : A.Inv (λ i => (T i).ph.proj) ch
structure Dyn (gs : Array Goroutine) (w : World) (t : Trace) (T : Nat -> Td L) (ch : Chs) (Shun : Loc -> Prop) : Prop where
 sit : ∀ (i : Nat) (x : Goroutine),gs[i]? = some x -> Sits P ty Wg A Fin i (T i) (Deaf t i) x w
 slp : ∀ (i j : Nat) (gi gj : Goroutine) (c : Nat) (v z z' : Value) (sh sh' : CommShape),gs[i]? = some (parked gi #[scase c v z] sh) -> gs[j]? = some (parked gj #[rcase c z'] sh') -> False
 slpC : ∀ (i : Nat) (gi : Goroutine) (c : Nat) (z : Value) (sh : CommShape),gs[i]? = some (parked gi #[rcase c z] sh) -> ch c ≠ some true
 slpW : ∀ (x : Goroutine),gs[0]? = some x -> (T 0).ph = .w3 -> x.status = .blocked -> ¬ WgAt ty Wg w 0 1
 tr : TI Wg gs.size (λ i => (T i).τ.own) (λ i b => (T i).τ.still b \/ (T i).τ.pass b) (λ i => (T i).ph.live) Shun w.heap.size t
def isRun (g : Goroutine) : Bool:=match g.status with | .running => true | _ => false
def mu (gs : Array Goroutine) (T : Nat -> Td L) : Mu:=(gs.size,λ j => if j < gs.size then (T j).r else .inl (gs.countP isRun))
end
end Go.Mt
namespace Go.Mt
open Go.Conc
open Go.ConcR (KK wgBlock WgAt stA smA rd wr mk)
section
variable {L : Type} {P : Program} {ty : TypeId} {Wg : Nat} {A : Proto L} {Fin : Goroutine -> World -> Prop}
theorem ofEvents_g {g : Nat} {fn : FuncId} {pos : String} {es : Array Event} {op : MemOp} (h : op ∈ MemOp.ofEvents g fn pos es) : op.g = g:=by
 rw [ofEvents_eq] at h
 obtain ⟨e,he,rfl⟩:=Array.mem_map.1 h
 rfl
def OkL (Wg : Nat) (own pas : Nat -> Prop) (k B : Nat) (e : Event) : Prop:=
 (∀ a,(MemAct.ofEvent e).touch? = some a -> (∃ b,b ≠ Wg /\ onB a.loc b /\ (own b \/ (pas b /\ a.write = false))) \/ (onB a.loc Wg /\ (a.kind = .atomic \/ (a.kind = .said /\ k = 0))) \/ a.loc.isMemory = false) /\
 MemAct.ofEvent e ≠ .mark (.release (stA Wg)) /\ (MemAct.ofEvent e).low B
theorem TI.events {n : Nat} {own pas : Nat -> Nat -> Prop} {live : Nat -> Prop} {Shun : Loc -> Prop} {B : Nat} {k : Nat} (hk : live k) (hkn : k < n)
  (hs : ∀ k' b,live k' -> k' ≠ k -> own k b -> ¬ own k' b /\ ¬ pas k' b) (hp : ∀ k' b,live k' -> k' ≠ k -> pas k b -> ¬ own k' b) (hW : ∀ k',live k' -> ¬ own k' Wg /\ ¬ pas k' Wg)
  (fn : FuncId) (pos : String) : ∀ (es : List Event) {t : Trace},TI Wg n own pas live Shun B t -> (∀ e ∈ es,OkL Wg (own k) (pas k) k B e) -> TI Wg n own pas live Shun B (t ++ MemOp.ofEvents k fn pos es.toArray)
 | [],t,h,_ => by simpa [MemOp.ofEvents] using h
 | e :: es,t,h,hes => by
  have e1 : t ++ MemOp.ofEvents k fn pos (e :: es).toArray = (t ++ #[{ g:=k,fn,pos,act:=.ofEvent e }]) ++ MemOp.ofEvents k fn pos es.toArray:=by
   rw [ofEvents_eq,ofEvents_eq]; apply Array.ext'; simp
  rw [e1]
  obtain ⟨h1,h2,h3⟩:=hes e (by simp)
  refine TI.events hk hkn hs hp hW fn pos es (h.push hk hkn rfl (λ a ha => ?_) h2 h3) λ e' he' => hes e' (by simp [he'])
  rcases h1 a ha with ⟨b,hb,hon,hper⟩ | ⟨hon,hkd⟩ | hm
  ·refine .inl ⟨b,hb,hon,hper,λ k' hk' hne => ?_⟩
   rcases hper with ho | ⟨hpp,hw⟩
   ·exact ⟨(hs k' b hk' hne ho).1,λ _ => (hs k' b hk' hne ho).2⟩
   ·exact ⟨hp k' b hk' hne hpp,λ x => by rw [hw] at x; cases x⟩
  ·exact .inr (.inl ⟨hon,hkd,hW⟩)
  ·exact .inr (.inr hm)
theorem okL_evT {own still pas : Nat -> Prop} {k B : Nat} {e : Event} (h : EvT Wg (k == 0) own still e) (hsp : ∀ b,still b -> pas b) (hb : ∀ b,own b \/ still b -> b < B /\ b ≠ Wg) (hW : Wg < B) : OkL Wg own pas k B e:=by
 obtain ⟨loc,w,sy⟩:=e
 cases loc with
 | cell a =>
  simp only [EvT] at h
  refine ⟨λ x hx => ?_,by simp [MemAct.ofEvent],?_⟩
  ·simp only [MemAct.ofEvent,MemAct.touch?,Option.some.injEq] at hx
   subst hx
   exact .inl ⟨a.block,(hb _ (h.imp id (·.1))).2,rfl,h.imp id λ x => ⟨hsp _ x.1,x.2⟩⟩
  ·exact (hb _ (h.imp id (·.1))).1
 | obj r =>
  simp only [EvT] at h
  cases w <;> cases sy <;> refine ⟨λ x hx => ?_,by simp [MemAct.ofEvent],(hb _ (h.imp id (·.1))).1⟩ <;> simp only [MemAct.ofEvent,MemAct.touch?,Option.some.injEq,reduceCtorEq] at hx <;>
   (subst hx; exact .inl ⟨r,(hb _ (h.imp id (·.1))).2,rfl,h.imp id λ x => ⟨hsp _ x.1,x.2⟩⟩)
 | output => exact h.elim
 | goroutines => exact h.elim
 | mark m =>
  cases m <;> simp only [EvT] at h <;> try exact h.elim
  case read a =>
   refine ⟨λ x hx => ?_,by simp [MemAct.ofEvent],by simpa [MemAct.ofEvent,MemAct.low,h.2] using hW⟩
   simp only [MemAct.ofEvent,MemAct.touch?,Option.some.injEq] at hx
   subst hx
   exact .inr (.inl ⟨h.2,.inr ⟨rfl,by simpa using h.1⟩⟩)
  case write a =>
   refine ⟨λ x hx => ?_,by simp [MemAct.ofEvent],by simpa [MemAct.ofEvent,MemAct.low,h.2] using hW⟩
   simp only [MemAct.ofEvent,MemAct.touch?,Option.some.injEq] at hx
   subst hx
   exact .inr (.inl ⟨h.2,.inr ⟨rfl,by simpa using h.1⟩⟩)
  all_goals exact ⟨λ x hx => by simp [MemAct.ofEvent,MemAct.touch?] at hx,by simp [MemAct.ofEvent],by simp [MemAct.ofEvent,MemAct.low]⟩
theorem okL_group {own pas : Nat -> Prop} {k B : Nat} {a : Addr} {b : Bool} (ha : a.block = Wg) (hW : Wg < B) : OkL Wg own pas k B ⟨.cell a,b,true⟩:=by
 refine ⟨λ x hx => ?_,by simp [MemAct.ofEvent],by simpa [MemAct.ofEvent,MemAct.low,Loc.low,ha] using hW⟩
 simp only [MemAct.ofEvent,MemAct.touch?,Option.some.injEq] at hx
 subst hx
 exact .inr (.inl ⟨ha,.inl rfl⟩)
theorem okL_mute {own pas : Nat -> Prop} {k B : Nat} {e : Event} (h : e.mute = true) : OkL Wg own pas k B e:=by
 refine ⟨λ x hx => (by rw [touch_mute h] at hx; cases hx),?_,low_mute h B⟩
 obtain ⟨loc,w,sy⟩:=e
 cases loc <;> simp_all [Event.mute]
 rename_i m
 cases m <;> simp_all [MemAct.ofEvent]
theorem TI.deafs {n : Nat} {own pas : Nat -> Nat -> Prop} {live : Nat -> Prop} {Shun : Loc -> Prop} {B : Nat} {k : Nat} (hkn : k < n) (hW : ∀ k',live k' -> ¬ own k' Wg /\ ¬ pas k' Wg)
  (fn : FuncId) (pos : String) : ∀ (es : List Event) {t : Trace},TI Wg n own pas live Shun B t ->
   (∀ (l r : List Event) (e : Event),es = l ++ e :: r -> (∀ a,(MemAct.ofEvent e).touch? = some a -> onB a.loc Wg /\ a.kind = .atomic /\ 0 < deafBehind (Deaf t k) l.toArray) /\ MemAct.ofEvent e ≠ .mark (.release (stA Wg)) /\ (MemAct.ofEvent e).low B) ->
   TI Wg n own pas live Shun B (t ++ MemOp.ofEvents k fn pos es.toArray)
 | [],t,h,_ => by simpa [MemOp.ofEvents] using h
 | e :: es,t,h,hes => by
  have e1 : t ++ MemOp.ofEvents k fn pos (e :: es).toArray = (t ++ #[{ g:=k,fn,pos,act:=.ofEvent e }]) ++ MemOp.ofEvents k fn pos es.toArray:=by
   rw [ofEvents_eq,ofEvents_eq]; apply Array.ext'; simp
  rw [e1]
  obtain ⟨h1,h2,h3⟩:=hes [] es e rfl
  refine TI.deafs hkn hW fn pos es (h.idle hkn (λ a ha => ⟨(h1 a ha).1,(h1 a ha).2.1,(h1 a ha).2.2,hW⟩) h2 h3) λ l r e' he' => ?_
  have hd : Deaf (t ++ #[({ g:=k,fn,pos,act:=.ofEvent e } : MemOp)]) k = deafBehind (Deaf t k) #[e]:=by
   have:=Deaf_own t k fn pos #[e]
   rw [ofEvents_eq] at this
   simpa using this
  have:=hes (e :: l) r e' (by rw [he']; rfl)
  rw [hd]
  refine ⟨λ a ha => ⟨(this.1 a ha).1,(this.1 a ha).2.1,?_⟩,this.2⟩
  have h5:=(this.1 a ha).2.2
  rwa [Go.ConcR.deafBehind_cons] at h5
theorem TI.mutes {n : Nat} {own pas : Nat -> Nat -> Prop} {live : Nat -> Prop} {Shun : Loc -> Prop} {B : Nat} {k : Nat} {t : Trace} (h : TI Wg n own pas live Shun B t) (hkn : k < n) (hW : ∀ k',live k' -> ¬ own k' Wg /\ ¬ pas k' Wg)
  (fn : FuncId) (pos : String) {es : Array Event} (hes : ∀ e ∈ es,Event.mute e = true) : TI Wg n own pas live Shun B (t ++ MemOp.ofEvents k fn pos es):=by
 obtain ⟨l⟩:=es
 refine h.deafs hkn hW fn pos l λ x r e he => ?_
 have hm:=hes e (by simp [he])
 have:=okL_mute (Wg:=Wg) (own:=own k) (pas:=pas k) (k:=k) (B:=B) hm
 exact ⟨λ a ha => (by rw [touch_mute hm] at ha; cases ha),this.2.1,this.2.2⟩
theorem mu_dec {gs gs' : Array Goroutine} {T T' : Nat -> Td L} {i : Nat} (hs : i ≠ 0 -> gs'.size = gs.size) (h0 : 0 < gs'.size) (hi : i < gs.size) (hi' : i < gs'.size) (hc : Cl (T' i).r (T i).r) (he : ∀ j,j < i -> (T' j).r = (T j).r) : Mu.lt (mu gs' T') (mu gs T):=by
 refine ⟨i,by simp only [mu]; omega,?_,λ j hj => ?_,λ h => by simpa [mu] using hs h⟩
 ·simp only [mu,if_pos hi,if_pos hi']; exact hc
 ·simp only [mu,if_pos (show j < gs.size by omega),if_pos (show j < gs'.size by omega)]; exact he j hj
theorem mu_dec' {gs gs' : Array Goroutine} {T : Nat -> Td L} (hs : gs'.size = gs.size) (hc : gs'.countP isRun < gs.countP isRun) : Mu.lt (mu gs' T) (mu gs T):=by
 refine ⟨gs.size,by simp [mu],?_,λ j hj => ?_,λ h => by simpa [mu] using hs⟩
 ·simp only [mu,hs,Nat.lt_irrefl,if_false]
  exact .inl hc
 ·simp only [mu,hs,if_pos hj]
theorem Dyn.go {gs : Array Goroutine} {w w' : World} {t : Trace} {T : Nat -> Td L} {ch ch' : Chs} {Shun : Loc -> Prop} (h : Dyn (P:=P) (ty:=ty) (Wg:=Wg) (A:=A) (Fin:=Fin) gs w t T ch Shun) {i : Nat} {x g' : Goroutine} {Ti : Td L} {es : Array Event} {fn : FuncId} {pos : String}
  (hi : gs[i]? = some x) (hsit : Sits P ty Wg A Fin i Ti (deafBehind (Deaf t i) es) g' w') (hnb : g'.status ≠ .blocked) (hsuf : ∀ j,j ≠ i -> Suf ty Wg (T j).τ w w')
  (hC : ∀ (j : Nat) (gj : Goroutine) (c : Nat) (z : Value) (sh : CommShape),gs[j]? = some (parked gj #[rcase c z] sh) -> woken P x g' w' (parked gj #[rcase c z] sh) = parked gj #[rcase c z] sh -> ch' c ≠ some true)
  (hW : i ≠ 0 -> ∀ x0,gs[0]? = some x0 -> (T 0).ph = .w3 -> x0.status = .blocked -> (woken P x g' w' x0).status = .blocked -> ¬ WgAt ty Wg w' 0 1)
  (htr : TI Wg gs.size (λ k => (upd T i Ti k).τ.own) (λ k b => (upd T i Ti k).τ.still b \/ (upd T i Ti k).τ.pass b) (λ k => (upd T i Ti k).ph.live) Shun w'.heap.size (t ++ MemOp.ofEvents i fn pos es)) :
  Dyn (P:=P) (ty:=ty) (Wg:=Wg) (A:=A) (Fin:=Fin) ((gs.map (woken P x g' w')).setIfInBounds i g') w' (t ++ MemOp.ofEvents i fn pos es) (upd T i Ti) ch' Shun:=by
 have hlt : i < gs.size:=(Array.getElem?_eq_some_iff.1 hi).1
 have get : ∀ (j : Nat) (y : Goroutine),((gs.map (woken P x g' w')).setIfInBounds i g')[j]? = some y -> (j = i /\ y = g') \/ (j ≠ i /\ ∃ y0,gs[j]? = some y0 /\ y = woken P x g' w' y0):=by
  intro j y hj
  by_cases hji : i = j
  ·subst hji
   rw [Array.getElem?_setIfInBounds_self_of_lt (by simpa using hlt)] at hj
   exact .inl ⟨rfl,(Option.some.inj hj).symm⟩
  ·rw [Array.getElem?_setIfInBounds_ne hji,Array.getElem?_map] at hj
   obtain ⟨y0,h0,rfl⟩:=Option.map_eq_some_iff.1 hj
   exact .inr ⟨λ e => hji e.symm,y0,h0,rfl⟩
 have back : ∀ (j : Nat) (gj : Goroutine) (cs : Array CommCase) (sh : CommShape),((gs.map (woken P x g' w')).setIfInBounds i g')[j]? = some (parked gj cs sh) -> gs[j]? = some (parked gj cs sh) /\ woken P x g' w' (parked gj cs sh) = parked gj cs sh:=by
  intro j gj cs sh hj
  rcases get j _ hj with ⟨_,e⟩ | ⟨hne,y0,h0,e⟩
  ·exact absurd (by rw [<- e]; rfl) hnb
  ·have hs:=h.sit j y0 h0
   by_cases hl : (T j).ph.leaves
   ·rw [sits_leaves hl] at hs
    obtain ⟨q,_,hQ⟩:=hs
    rw [woken_quitsD hQ] at e
    have:=hQ.status
    rw [<- e] at this
    simp [parked] at this
   ·rw [sits_stays hl] at hs
    obtain ⟨r,_,_,hx | ⟨l,cs',sh',_,rfl,_,_⟩ | ⟨_,rfl,ho⟩⟩:=hs
    ·rw [woken_running hx.1] at e
     have:=hx.1
     rw [<- e] at this
     simp [parked] at this
    ·rcases woken_parked (P:=P) x g' (T j).g cs' sh' w' with e2 | e2
     ·rw [e2] at e; rw [h0,e,e2]; exact ⟨rfl,rfl⟩
     ·rw [e2] at e
      have : (parked gj cs sh).status = .running:=by rw [e]
      simp [parked] at this
    ·have : (parked gj cs sh).offers = none:=by
      rw [e]
      unfold woken
      split
      ·simp [Goroutine.again,ho]
      ·exact ho
     simp [parked] at this
 refine ⟨λ j y hj => ?_,λ a b ga gb c v z z' sh sh' ha hb => ?_,λ j gj c z sh hj => ?_,λ y hy hph hst => ?_,by simpa using htr⟩
 ·rcases get j y hj with ⟨rfl,rfl⟩ | ⟨hne,y0,h0,rfl⟩
  ·rw [upd_same,Deaf_own]; exact hsit
  ·rw [upd_ne T Ti hne,Deaf_other t (g':=i) (λ e => hne e.symm) (MemOp.ofEvents i fn pos es) (λ op hop => ofEvents_g hop)]
   exact (h.sit j y0 h0).other (hsuf j hne) _ _
 ·exact h.slp a b ga gb c v z z' sh sh' (back a ga _ _ ha).1 (back b gb _ _ hb).1
 ·exact hC j gj c z sh (back j gj _ _ hj).1 (back j gj _ _ hj).2
 ·rcases get 0 y hy with ⟨e,rfl⟩ | ⟨hne,y0,h0,rfl⟩
  ·exact absurd hst hnb
  ·rw [upd_ne T Ti hne] at hph
   have hb : y0.status = .blocked:=by
    rcases (h.sit 0 y0 h0).status with hs | hs | hs
    ·rw [woken_running hs,hs] at hst; cases hst
    ·unfold woken at hst
     split at hst
     ·rw [again_running _ (.inr hs),hs] at hst; cases hst
     ·rw [hs] at hst; cases hst
    ·exact hs
   exact hW (λ e => hne e.symm) y0 h0 hph hb hst
end
end Go.Mt
namespace Go.Mt
open Go.Conc
open Go.ConcR (KK wgBlock WgAt stA smA rd wr mk)
section
variable {L : Type} {P : Program} {ty : TypeId} {Wg : Nat} {A : Proto L} {Fin : Goroutine -> World -> Prop}
theorem Suf.of_aside {τ : Terr} {c : Nat} {w w' : World} (h : Go.Conc.Aside c w w') (hc : ¬ τ.own c /\ ¬ τ.still c) (hl : WgLive ty Wg w -> WgLive ty Wg w') : Suf ty Wg τ w w':=
 ⟨h.tape,h.os,h.output,Nat.le_of_eq h.size.symm,λ b hb => h.block b (λ e => by subst e; exact hb.elim hc.1 hc.2),hl⟩
theorem live_aside {c : Nat} {w w' : World} (h : Go.Conc.Aside c w w') (hc : c ≠ Wg) : WgLive ty Wg w -> WgLive ty Wg w':=λ ⟨a,b,x⟩ => ⟨a,b,(h.block Wg (λ e => hc e.symm)).trans x⟩
theorem Grp.live {p : Nat -> Ph L} {n : Nat} {w : World} (h : Grp A ty Wg p n w) : WgLive ty Wg w:=by
 unfold Grp at h
 split at h
 ·exact ⟨_,_,h.1⟩
 ·exact ⟨_,_,h.1⟩
 ·exact ⟨_,_,h.1⟩
 ·rcases h with ⟨_,h,_⟩ | ⟨_,_,_,_,⟨_,h⟩ | ⟨_,h⟩⟩ | ⟨_,_,h⟩ <;> exact ⟨_,_,h⟩
 ·exact ⟨_,_,h.2.2⟩
 ·exact ⟨_,_,h.2.2⟩
 ·exact h.elim
theorem WgLive.lt {w : World} (h : WgLive ty Wg w) : Wg < w.heap.size:=by
 obtain ⟨_,_,h⟩:=h
 exact (Array.getElem?_eq_some_iff.1 h).1
theorem Grp.of_block {p : Nat -> Ph L} {n : Nat} {w w' : World} (h : Grp A ty Wg p n w) (e : w'.heap[Wg]? = w.heap[Wg]?) : Grp A ty Wg p n w':=by
 have key : ∀ a b,WgAt ty Wg w a b -> WgAt ty Wg w' a b:=λ a b x => e.trans x
 unfold Grp at *
 split
 all_goals (rename_i hp; simp only [hp] at h)
 ·exact ⟨key _ _ h.1,h.2⟩
 ·exact ⟨key _ _ h.1,h.2⟩
 ·exact ⟨key _ _ h.1,h.2⟩
 ·exact h.imp (λ x => ⟨x.1,key _ _ x.2.1,x.2.2⟩) (Or.imp (λ ⟨a,i,l,b,c⟩ => ⟨a,i,l,b,c.imp (λ x => ⟨x.1,key _ _ x.2⟩) (λ x => ⟨x.1,key _ _ x.2⟩)⟩) λ x => ⟨x.1,x.2.1,key _ _ x.2.2⟩)
 ·exact ⟨h.1,h.2.1,key _ _ h.2.2⟩
 ·exact ⟨h.1,h.2.1,key _ _ h.2.2⟩
theorem proj_upd (T : Nat -> Td L) (i : Nat) (Ti : Td L) : (λ j => (upd T i Ti j).ph.proj) = upd (λ j => (T j).ph.proj) i Ti.ph.proj:=by
 funext j
 by_cases h : j = i
 ·subst h; simp [upd_same]
 ·simp [upd_ne _ _ h]
theorem ph_upd (T : Nat -> Td L) (i : Nat) (Ti : Td L) : (λ j => (upd T i Ti j).ph) = upd (λ j => (T j).ph) i Ti.ph:=by
 funext j
 by_cases h : j = i
 ·subst h; simp [upd_same]
 ·simp [upd_ne _ _ h]
theorem upd_self {α : Type _} (f : Nat -> α) (i : Nat) : upd f i (f i) = f:=by
 funext j
 by_cases h : j = i
 ·subst h; simp [upd_same]
 ·simp [upd_ne _ _ h]
theorem Stat.same {n : Nat} {w : World} {T T' : Nat -> Td L} {ch : Chs} (h : Stat (ty:=ty) (Wg:=Wg) (A:=A) n w T ch) (hp : ∀ j,(T' j).ph = (T j).ph) (ht : ∀ j,(T' j).τ = (T j).τ) : Stat (ty:=ty) (Wg:=Wg) (A:=A) n w T' ch:=by
 have e1 : (λ j => (T' j).ph) = λ j => (T j).ph:=funext hp
 have e2 : (λ j => (T' j).ph.proj) = λ j => (T j).ph.proj:=funext λ j => by rw [hp]
 refine ⟨h.n0,λ i hi => (hp i).trans (h.out i hi),by rw [hp]; exact h.role0,λ i hi => by rw [hp]; exact h.role i hi,λ i hi => by rw [ht]; rw [hp] at hi; exact h.nil i hi,λ i j b hij hb => by rw [ht] at hb ⊢; exact h.sep i j b hij hb,
  λ i b hb => by rw [ht] at hb; exact h.bnd i b hb,λ i b hb => by rw [ht] at hb; exact h.pas i b hb,λ i l hi => by rw [ht]; rw [hp] at hi; exact h.depo i l hi,h.chan,by rw [e1]; exact h.grp,by rw [e2]; exact h.inv⟩
theorem Stat.suf {n : Nat} {w w' : World} {T : Nat -> Td L} {ch : Chs} (h : Stat (ty:=ty) (Wg:=Wg) (A:=A) n w T ch) {i : Nat} (g : Gua (T i).τ.own w w') {j : Nat} (hj : j ≠ i) : Suf ty Wg (T j).τ w w':=by
 have hl : WgLive ty Wg w -> WgLive ty Wg w':=λ x => by
  obtain ⟨a,b,hx⟩:=id x
  exact ⟨a,b,(g.keep Wg x.lt λ e => ((h.bnd i Wg (.inl e)).2.1 rfl)).trans hx⟩
 refine ⟨g.tape,g.os,g.output,g.size,λ b hb => g.keep b (h.bnd j b hb).1 λ e => ?_,hl⟩
 have:=h.sep i j b (λ e => hj e.symm) e
 exact hb.elim this.1 this.2.1
theorem Stat.grow {n : Nat} {w w' : World} {T : Nat -> Td L} {ch : Chs} (h : Stat (ty:=ty) (Wg:=Wg) (A:=A) n w T ch) {i : Nat} (hlive : (T i).ph.live) (g : Gua (T i).τ.own w w') (r : Cp) (g' : Goroutine) :
  Stat (ty:=ty) (Wg:=Wg) (A:=A) n w' (upd T i ⟨(T i).ph,r,(T i).τ.grow w w',g'⟩) ch:=by
 have hp : ∀ j,(upd T i ⟨(T i).ph,r,(T i).τ.grow w w',g'⟩ j).ph = (T j).ph:=λ j => by
  by_cases hj : j = i
  ·subst hj; simp [upd_same]
  ·simp [upd_ne _ _ hj]
 have e1 : (λ j => (upd T i ⟨(T i).ph,r,(T i).τ.grow w w',g'⟩ j).ph) = λ j => (T j).ph:=funext hp
 have e2 : (λ j => (upd T i ⟨(T i).ph,r,(T i).τ.grow w w',g'⟩ j).ph.proj) = λ j => (T j).ph.proj:=funext λ j => by rw [hp]
 have hs:=g.size
 have hWg : w'.heap[Wg]? = w.heap[Wg]?:=g.keep Wg h.grp.live.lt λ e => ((h.bnd i Wg (.inl e)).2.1 rfl)
 have chLow : ∀ c b,ch c = some b -> c < w.heap.size:=λ c b hc => by
  obtain ⟨_,s,r,hh⟩:=h.chan c b hc
  exact (Array.getElem?_eq_some_iff.1 hh).1
 refine ⟨h.n0,λ j hj => (hp j).trans (h.out j hj),by rw [hp]; exact h.role0,λ j hj => by rw [hp]; exact h.role j hj,λ j hj b => ?_,λ a j b hij hb => ?_,λ j b hb => ?_,λ j b hb => ?_,λ j l hj => ?_,λ c b hc => ?_,by rw [e1]; exact h.grp.of_block hWg,by rw [e2]; exact h.inv⟩
 ·rw [hp] at hj
  by_cases hji : j = i
  ·subst hji; rw [hj] at hlive; exact hlive.elim
  ·rw [upd_ne _ _ hji]; exact h.nil j hj b
 ·by_cases hai : a = i
  ·subst hai
   have hji : j ≠ a:=λ e => hij e.symm
   rw [upd_same] at hb
   rw [upd_ne _ _ hji]
   rcases hb with hb | ⟨hb,_⟩
   ·exact h.sep a j b hij hb
   ·exact ⟨λ e => by have:=(h.bnd j b (.inl e)).1; omega,λ e => by have:=(h.bnd j b (.inr e)).1; omega,λ e => by have:=(h.pas j b e).1; omega⟩
  ·rw [upd_ne _ _ hai] at hb
   by_cases hji : j = i
   ·subst hji
    rw [upd_same]
    have:=h.sep a j b hij hb
    exact ⟨λ e => e.elim this.1 λ x => by have:=(h.bnd a b (.inl hb)).1; omega,this.2⟩
   ·rw [upd_ne _ _ hji]; exact h.sep a j b hij hb
 ·by_cases hji : j = i
  ·subst hji
   rw [upd_same] at hb
   rcases hb with (hb | ⟨hb,hb'⟩) | hb
   ·have:=h.bnd j b (.inl hb); exact ⟨by omega,this.2⟩
   ·refine ⟨hb',λ e => by have:=h.grp.live.lt; omega,?_⟩
    cases hc : ch b with
    | none => rfl
    | some x => have:=chLow b x hc; omega
   ·have:=h.bnd j b (.inr hb); exact ⟨by omega,this.2⟩
  ·rw [upd_ne _ _ hji] at hb
   have:=h.bnd j b hb; exact ⟨by omega,this.2⟩
 ·by_cases hji : j = i
  ·subst hji
   rw [upd_same] at hb
   have:=h.pas j b hb; exact ⟨by omega,this.2⟩
  ·rw [upd_ne _ _ hji] at hb
   have:=h.pas j b hb; exact ⟨by omega,this.2⟩
 ·rw [hp] at hj
  by_cases hji : j = i
  ·subst hji
   cases hph : (T j).ph <;> rw [hph] at hj hlive <;> first | exact hlive.elim | simp [Ph.proj] at hj
  ·rw [upd_ne _ _ hji]
   exact λ w₁ s₁ => h.depo j l hj w₁ ((h.suf g hji).trans s₁)
 ·obtain ⟨h1,s,r,h2⟩:=h.chan c b hc
  exact ⟨h1,s,r,(g.keep c (chLow c b hc) λ e => by have:=(h.bnd i c (.inl e)).2.2; rw [hc] at this; cases this).trans h2⟩
theorem Stat.phase {n : Nat} {w w' : World} {T : Nat -> Td L} {ch : Chs} (h : Stat (ty:=ty) (Wg:=Wg) (A:=A) n w T ch) {i : Nat} (hg : (T i).ph ≠ .gone) (hin : i < n) (a : Go.Conc.Aside Wg w w') (ph' : Ph L) (r : Cp) (g' : Goroutine)
  (hph : ph' ≠ .gone) (h0 : i = 0 -> ph'.live) (h1 : i ≠ 0 -> ¬ ph'.waits) (hl : WgLive ty Wg w -> WgLive ty Wg w')
  (hd : ∀ l,ph'.proj = .over l -> (T i).ph.proj = .over l \/ ∀ w₁,Suf ty Wg (T i).τ w w₁ -> A.dep l w₁)
  (hgrp : Grp A ty Wg (upd (λ j => (T j).ph) i ph') n w') (hinv : A.Inv (upd (λ j => (T j).ph.proj) i ph'.proj) ch) :
  Stat (ty:=ty) (Wg:=Wg) (A:=A) n w' (upd T i ⟨ph',r,(T i).τ,g'⟩) ch:=by
 have ht : ∀ j,(upd T i ⟨ph',r,(T i).τ,g'⟩ j).τ = (T j).τ:=λ j => by
  by_cases hj : j = i
  ·subst hj; simp [upd_same]
  ·simp [upd_ne _ _ hj]
 have sf : ∀ j,Suf ty Wg (T j).τ w w':=λ j => Suf.of_aside a ⟨λ e => (h.bnd j Wg (.inl e)).2.1 rfl,λ e => (h.bnd j Wg (.inr e)).2.1 rfl⟩ hl
 have hsz:=a.size
 refine ⟨h.n0,λ j hj => ?_,?_,λ j hj => ?_,λ j hj b => ?_,λ x j b hij hb => ?_,λ j b hb => ?_,λ j b hb => ?_,λ j l hj => ?_,λ c b hc => ?_,by rw [ph_upd]; exact hgrp,by rw [proj_upd]; exact hinv⟩
 ·have : j ≠ i:=by omega
  rw [upd_ne _ _ this]; exact h.out j hj
 ·by_cases hi : i = 0
  ·subst hi; rw [upd_same]; exact h0 rfl
  ·rw [upd_ne _ _ (Ne.symm hi)]; exact h.role0
 ·by_cases hji : j = i
  ·subst hji; rw [upd_same]; exact h1 hj
  ·rw [upd_ne _ _ hji]; exact h.role j hj
 ·rw [ht]
  by_cases hji : j = i
  ·subst hji; rw [upd_same] at hj; exact absurd hj hph
  ·rw [upd_ne _ _ hji] at hj; exact h.nil j hj b
 ·rw [ht] at hb ⊢; exact h.sep x j b hij hb
 ·rw [ht] at hb; have:=h.bnd j b hb; exact ⟨by omega,this.2⟩
 ·rw [ht] at hb; have:=h.pas j b hb; exact ⟨by omega,this.2⟩
 ·rw [ht]
  by_cases hji : j = i
  ·subst hji
   rw [upd_same] at hj
   rcases hd l hj with x | x
   ·exact λ w₁ s₁ => h.depo j l x w₁ ((sf j).trans s₁)
   ·exact λ w₁ s₁ => x w₁ ((sf j).trans s₁)
  ·rw [upd_ne _ _ hji] at hj
   exact λ w₁ s₁ => h.depo j l hj w₁ ((sf j).trans s₁)
 ·obtain ⟨h1,s,r,h2⟩:=h.chan c b hc
  exact ⟨h1,s,r,(a.block c h1).trans h2⟩
theorem Stat.close {n : Nat} {w w' : World} {T : Nat -> Td L} {ch : Chs} (h : Stat (ty:=ty) (Wg:=Wg) (A:=A) n w T ch) {i : Nat} (hin : i < n) {c : Nat} {x : Bool} (hc : ch c = some x) (a : Go.Conc.Aside c w w') {l l' : L} (hl : (T i).ph = .usr l) (r : Cp) (g' : Goroutine)
  (hw' : ∃ s r,w'.heap[c]? = some (.chan 0 #[] true s r false)) (hgrp : Grp A ty Wg (upd (λ j => (T j).ph) i (.usr l')) n w) (hinv : A.Inv (upd (λ j => (T j).ph.proj) i (.run l')) (upd ch c (some true))) :
  Stat (ty:=ty) (Wg:=Wg) (A:=A) n w' (upd T i ⟨.usr l',r,(T i).τ,g'⟩) (upd ch c (some true)):=by
 have ht : ∀ j,(upd T i ⟨.usr l',r,(T i).τ,g'⟩ j).τ = (T j).τ:=λ j => by
  by_cases hj : j = i
  ·subst hj; simp [upd_same]
  ·simp [upd_ne _ _ hj]
 have hcW:=(h.chan c x hc).1
 have nc : ∀ j,¬ (T j).τ.own c /\ ¬ (T j).τ.still c:=λ j => ⟨λ e => (by have:=(h.bnd j c (.inl e)).2.2; rw [hc] at this; cases this),λ e => (by have:=(h.bnd j c (.inr e)).2.2; rw [hc] at this; cases this)⟩
 have sf : ∀ j,Suf ty Wg (T j).τ w w':=λ j => Suf.of_aside a (nc j) (live_aside a hcW)
 have hsz:=a.size
 refine ⟨h.n0,λ j hj => ?_,?_,λ j hj => ?_,λ j hj b => ?_,λ x j b hij hb => ?_,λ j b hb => ?_,λ j b hb => ?_,λ j l hj => ?_,λ c' b hc' => ?_,by rw [ph_upd]; exact hgrp.of_block (a.block Wg (Ne.symm hcW)),by rw [proj_upd]; exact hinv⟩
 ·have : j ≠ i:=by omega
  rw [upd_ne _ _ this]; exact h.out j hj
 ·by_cases hi : i = 0
  ·subst hi; rw [upd_same]; trivial
  ·rw [upd_ne _ _ (Ne.symm hi)]; exact h.role0
 ·by_cases hji : j = i
  ·subst hji; rw [upd_same]; exact id
  ·rw [upd_ne _ _ hji]; exact h.role j hj
 ·rw [ht]
  by_cases hji : j = i
  ·subst hji; rw [upd_same] at hj; cases hj
  ·rw [upd_ne _ _ hji] at hj; exact h.nil j hj b
 ·rw [ht] at hb ⊢; exact h.sep x j b hij hb
 ·rw [ht] at hb
  have:=h.bnd j b hb
  refine ⟨by omega,this.2.1,?_⟩
  have hne : b ≠ c:=λ e => by subst e; exact hb.elim (nc j).1 (nc j).2
  rw [upd_ne _ _ hne]; exact this.2.2
 ·rw [ht] at hb; have:=h.pas j b hb; exact ⟨by omega,this.2⟩
 ·rw [ht]
  by_cases hji : j = i
  ·subst hji; rw [upd_same] at hj; simp [Ph.proj] at hj
  ·rw [upd_ne _ _ hji] at hj
   exact λ w₁ s₁ => h.depo j l hj w₁ ((sf j).trans s₁)
 ·by_cases hcc : c' = c
  ·subst hcc
   rw [upd_same] at hc'
   obtain ⟨s,r,hw⟩:=hw'
   exact ⟨hcW,s,r,by rw [hw,<- Option.some.inj hc']⟩
  ·rw [upd_ne _ _ hcc] at hc'
   obtain ⟨h1,s,r,h2⟩:=h.chan c' b hc'
   exact ⟨h1,s,r,(a.block c' hcc).trans h2⟩
end
end Go.Mt
namespace Go.Mt
open Go.Conc
open Go.ConcR (KK wgBlock WgAt stA smA rd wr mk)
section
variable {L : Type} {P : Program} {ty : TypeId} {Wg : Nat} {A : Proto L} {Fin : Goroutine -> World -> Prop}
theorem Grp.congr {p p' : Nat -> Ph L} {n n' : Nat} {w : World} (h : Grp A ty Wg p n w) (h0 : p' 0 = p 0 \/ ∃ l l',p 0 = .usr l /\ p' 0 = .usr l') (hv : vv A p' n' = vv A p n) (hl : ∀ j,(p j).last \/ (p' j).last -> p' j = p j) : Grp A ty Wg p' n' w:=by
 have nl : (∀ i,¬ (p i).last) -> ∀ i,¬ (p' i).last:=λ x i e => x i (by rw [<- hl i (.inr e)]; exact e)
 unfold Grp at *
 rcases h0 with h0 | ⟨l,l',h0,h0'⟩
 ·rw [h0,hv]
  split
  all_goals (rename_i hp; simp only [hp] at h)
  ·exact ⟨h.1,nl h.2⟩
  ·exact ⟨h.1,nl h.2.1,h.2.2⟩
  ·exact ⟨h.1,nl h.2.1,h.2.2⟩
  ·rcases h with ⟨a,b,c⟩ | ⟨a,i,l,b,c⟩ | ⟨a,b,c⟩
   ·exact .inl ⟨a,b,nl c⟩
   ·have hi : (p i).last:=by rcases c with ⟨c | c,_⟩ | ⟨c,_⟩ <;> rw [c] <;> trivial
    have e:=hl i (.inl hi)
    refine .inr (.inl ⟨a,i,l,λ j hj => b j (by rw [<- hl j (.inr hj)]; exact hj),?_⟩)
    rw [e]; exact c
   ·exact .inr (.inr ⟨a,nl b,c⟩)
  ·exact ⟨h.1,nl h.2.1,h.2.2⟩
  ·exact ⟨h.1,nl h.2.1,h.2.2⟩
 ·rw [h0']
  rw [h0] at h
  simp only at h ⊢
  rw [hv]
  exact ⟨h.1,nl h.2⟩
theorem pnd_upd_ne (A : Proto L) (p : Nat -> Ph L) {i : Nat} (h : i ≠ 0) (x : Ph L) : pnd A (upd p i x) = pnd A p:=by
 unfold pnd; rw [upd_ne _ _ (Ne.symm h)]
theorem Grp.usr {p : Nat -> Ph L} {n : Nat} {w : World} (h : Grp A ty Wg p n w) {i : Nat} {l l' : L} (hi : p i = .usr l) (hin : i < n) (hpe : A.pend l' = A.pend l) : Grp A ty Wg (upd p i (.usr l')) n w:=by
 refine h.congr ?_ ?_ λ j hj => ?_
 ·by_cases h0 : i = 0
  ·subst h0; exact .inr ⟨l,l',hi,upd_same _ _ _⟩
  ·exact .inl (upd_ne _ _ (Ne.symm h0))
 ·unfold vv
  by_cases h0 : i = 0
  ·subst h0
   rw [cnt_upd0]
   unfold pnd
   rw [upd_same,hi]
   simp only [hpe]
  ·rw [pnd_upd_ne A p h0]
   have:=cnt_upd p (i:=i) (n:=n) (.usr l') hin h0
   rw [hi] at this
   simp only [Ph.pre,if_true] at this
   omega
 ·by_cases hji : j = i
  ·subst hji; rw [upd_same,hi] at hj; exact (hj.elim id id).elim
  ·exact upd_ne _ _ hji
theorem opn_in {ch : Chs} {l : List Nat} {a : Nat} (h : a ∈ l) : ch.opn l a = some false:=by simp [Chs.opn,h]
theorem opn_out {ch : Chs} {l : List Nat} {a : Nat} (h : a ∉ l) : ch.opn l a = ch a:=by simp [Chs.opn,h]
theorem Stat.meet {n : Nat} {w w' : World} {T : Nat -> Td L} {ch : Chs} (h : Stat (ty:=ty) (Wg:=Wg) (A:=A) n w T ch) {i j : Nat} (hij : i ≠ j) (hin : i < n) (hjn : j < n) {c : Nat} (hc : ch c = some false) (a : Go.Conc.Aside c w w') {li li' lj lj' : L}
  (hi : (T i).ph = .usr li) (hj : (T j).ph = .usr lj) (ri rj : Cp) (gi gj : Goroutine) (τ' : Terr) (pub : List Nat)
  (ho : ∀ b,τ'.own b -> (T i).τ.own b) (hst : τ'.still = (T i).τ.still) (hpa : ∀ b,τ'.pass b -> (T i).τ.pass b \/ (T i).τ.own b)
  (hpub : ∀ a ∈ pub,(T i).τ.own a /\ ¬ τ'.own a /\ ¬ τ'.still a /\ freshChan w a) (hw' : ∃ s r,w'.heap[c]? = some (.chan 0 #[] false s r false))
  (hpi : A.pend li' = A.pend li) (hpj : A.pend lj' = A.pend lj) (hinv : A.Inv (upd (upd (λ k => (T k).ph.proj) i (.run li')) j (.run lj')) (ch.opn pub)) :
  Stat (ty:=ty) (Wg:=Wg) (A:=A) n w' (upd (upd T i ⟨.usr li',ri,τ',gi⟩) j ⟨.usr lj',rj,(T j).τ,gj⟩) (ch.opn pub):=by
 have hcW:=(h.chan c _ hc).1
 have hWg:=a.block Wg (Ne.symm hcW)
 have hsz:=a.size
 have nc : ∀ k,¬ (T k).τ.own c /\ ¬ (T k).τ.still c:=λ k => ⟨λ e => (by have:=(h.bnd k c (.inl e)).2.2; rw [hc] at this; cases this),λ e => (by have:=(h.bnd k c (.inr e)).2.2; rw [hc] at this; cases this)⟩
 have sf : ∀ k,Suf ty Wg (T k).τ w w':=λ k => Suf.of_aside a (nc k) (live_aside a hcW)
 let U:=upd (upd T i ⟨.usr li',ri,τ',gi⟩) j ⟨.usr lj',rj,(T j).τ,gj⟩
 have ui : U i = ⟨.usr li',ri,τ',gi⟩:=by simp only [U]; rw [upd_ne _ _ hij,upd_same]
 have uj : U j = ⟨.usr lj',rj,(T j).τ,gj⟩:=by simp only [U]; rw [upd_same]
 have uk : ∀ k,k ≠ i -> k ≠ j -> U k = T k:=λ k h1 h2 => by simp only [U]; rw [upd_ne _ _ h2,upd_ne _ _ h1]
 have own : ∀ k b,(U k).τ.own b -> (T k).τ.own b:=λ k b hb => by
  by_cases k1 : k = i
  ·subst k1; rw [ui] at hb; exact ho b hb
  ·by_cases k2 : k = j
   ·subst k2; rw [uj] at hb; exact hb
   ·rw [uk k k1 k2] at hb; exact hb
 have still : ∀ k,(U k).τ.still = (T k).τ.still:=λ k => by
  by_cases k1 : k = i
  ·subst k1; rw [ui]; exact hst
  ·by_cases k2 : k = j
   ·subst k2; rw [uj]
   ·rw [uk k k1 k2]
 have pass : ∀ k b,(U k).τ.pass b -> (T k).τ.pass b \/ (T k).τ.own b:=λ k b hb => by
  by_cases k1 : k = i
  ·subst k1; rw [ui] at hb; exact hpa b hb
  ·by_cases k2 : k = j
   ·subst k2; rw [uj] at hb; exact .inl hb
   ·rw [uk k k1 k2] at hb; exact .inl hb
 have eph : (λ k => (U k).ph) = upd (upd (λ k => (T k).ph) i (.usr li')) j (.usr lj'):=by simp only [U]; rw [ph_upd,ph_upd]
 have epr : (λ k => (U k).ph.proj) = upd (upd (λ k => (T k).ph.proj) i (.run li')) j (.run lj'):=by simp only [U]; rw [proj_upd,proj_upd]; rfl
 have hp : ∀ k,(U k).ph = (T k).ph \/ (∃ l,(U k).ph = .usr l):=λ k => by
  by_cases k1 : k = i
  ·subst k1; rw [ui]; exact .inr ⟨_,rfl⟩
  ·by_cases k2 : k = j
   ·subst k2; rw [uj]; exact .inr ⟨_,rfl⟩
   ·rw [uk k k1 k2]; exact .inl rfl
 refine ⟨h.n0,λ k hk => ?_,?_,λ k hk => ?_,λ k hk b => ?_,λ x k b hxk hb => ?_,λ k b hb => ?_,λ k b hb => ?_,λ k l hk => ?_,λ c' b hc' => ?_,?_,?_⟩
 ·show (U k).ph = _
  rw [uk k (by omega) (by omega)]; exact h.out k hk
 ·rcases hp 0 with e | ⟨l,e⟩
  ·rw [show (upd (upd T i ⟨.usr li',ri,τ',gi⟩) j ⟨.usr lj',rj,(T j).τ,gj⟩ 0).ph = (T 0).ph from e]; exact h.role0
  ·rw [show (upd (upd T i ⟨.usr li',ri,τ',gi⟩) j ⟨.usr lj',rj,(T j).τ,gj⟩ 0).ph = .usr l from e]; trivial
 ·rcases hp k with e | ⟨l,e⟩
  ·rw [show (upd (upd T i ⟨.usr li',ri,τ',gi⟩) j ⟨.usr lj',rj,(T j).τ,gj⟩ k).ph = (T k).ph from e]; exact h.role k hk
  ·rw [show (upd (upd T i ⟨.usr li',ri,τ',gi⟩) j ⟨.usr lj',rj,(T j).τ,gj⟩ k).ph = .usr l from e]; exact id
 ·have k1 : k ≠ i:=λ e => by subst e; rw [show (upd (upd T k ⟨.usr li',ri,τ',gi⟩) j ⟨.usr lj',rj,(T j).τ,gj⟩ k) = _ from ui] at hk; cases hk
  have k2 : k ≠ j:=λ e => by subst e; rw [show (upd (upd T i ⟨.usr li',ri,τ',gi⟩) k ⟨.usr lj',rj,(T k).τ,gj⟩ k) = _ from uj] at hk; cases hk
  have e:=uk k k1 k2
  show ¬ (U k).τ.own b /\ _
  rw [show (upd (upd T i ⟨.usr li',ri,τ',gi⟩) j ⟨.usr lj',rj,(T j).τ,gj⟩ k) = T k from e] at hk ⊢
  rw [e]
  exact h.nil k hk b
 ·have:=h.sep x k b hxk (own x b hb)
  refine ⟨λ e => this.1 (own k b e),λ e => this.2.1 (by have e' : (U k).τ.still b:=e; rwa [still k] at e'),λ e => (pass k b e).elim this.2.2 this.1⟩
 ·have hb' : (T k).τ.own b \/ (T k).τ.still b:=hb.imp (own k b) λ e => by have e' : (U k).τ.still b:=e; rwa [still k] at e'
  have:=h.bnd k b hb'
  refine ⟨by omega,this.2.1,?_⟩
  have hnp : b ∉ pub:=λ hp => by
   obtain ⟨h1,h2,h3,_⟩:=hpub b hp
   by_cases k1 : k = i
   ·subst k1
    rcases hb with e | e
    ·rw [show (upd (upd T k ⟨.usr li',ri,τ',gi⟩) j ⟨.usr lj',rj,(T j).τ,gj⟩ k) = _ from ui] at e; exact h2 e
    ·rw [show (upd (upd T k ⟨.usr li',ri,τ',gi⟩) j ⟨.usr lj',rj,(T j).τ,gj⟩ k) = _ from ui] at e; exact h3 e
   ·have s:=h.sep i k b (Ne.symm k1) h1
    exact hb'.elim s.1 s.2.1
  rw [opn_out hnp]; exact this.2.2
 ·rcases pass k b hb with e | e
  ·have:=h.pas k b e; exact ⟨by omega,this.2⟩
  ·have:=h.bnd k b (.inl e); exact ⟨by omega,this.2.1⟩
 ·by_cases k1 : k = i
  ·subst k1; rw [show (upd (upd T k ⟨.usr li',ri,τ',gi⟩) j ⟨.usr lj',rj,(T j).τ,gj⟩ k) = _ from ui] at hk; simp [Ph.proj] at hk
  ·by_cases k2 : k = j
   ·subst k2; rw [show (upd (upd T i ⟨.usr li',ri,τ',gi⟩) k ⟨.usr lj',rj,(T k).τ,gj⟩ k) = _ from uj] at hk; simp [Ph.proj] at hk
   ·rw [show (upd (upd T i ⟨.usr li',ri,τ',gi⟩) j ⟨.usr lj',rj,(T j).τ,gj⟩ k) = T k from uk k k1 k2] at hk ⊢
    exact λ w₁ s₁ => h.depo k l hk w₁ ((sf k).trans s₁)
 ·by_cases hcp : c' ∈ pub
  ·obtain ⟨h1,_,_,h4⟩:=hpub c' hcp
   rw [opn_in hcp] at hc'
   have hne : c' ≠ c:=λ e => by subst e; exact (nc i).1 h1
   exact ⟨(h.bnd i c' (.inl h1)).2.1,0,0,by rw [a.block c' hne,<- Option.some.inj hc']; exact h4⟩
  ·rw [opn_out hcp] at hc'
   by_cases hcc : c' = c
   ·subst hcc
    rw [hc] at hc'
    obtain ⟨s,r,hw⟩:=hw'
    exact ⟨hcW,s,r,by rw [hw,<- Option.some.inj hc']⟩
   ·obtain ⟨h1,s,r,h2⟩:=h.chan c' b hc'
    exact ⟨h1,s,r,(a.block c' hcc).trans h2⟩
 ·show Grp A ty Wg (λ k => (U k).ph) n w'
  rw [eph]
  refine Grp.of_block (Grp.usr (l:=lj) (Grp.usr (l:=li) h.grp hi hin hpi) ?_ hjn hpj) hWg
  rw [upd_ne _ _ (Ne.symm hij)]; exact hj
 ·show A.Inv (λ k => (U k).ph.proj) _
  rw [epr]; exact hinv
theorem Stat.fork {n : Nat} {w : World} {T : Nat -> Td L} {ch : Chs} (h : Stat (ty:=ty) (Wg:=Wg) (A:=A) n w T ch) {l lm lc : L} (hl : (T 0).ph = .usr l) (hp1 : A.pend l = true) (hp2 : A.pend lm = false) (rm rc : Cp) (gm gc : Goroutine) (τm τc : Terr) (pub : List Nat)
  (hown : ∀ b,τm.own b \/ τc.own b -> (T 0).τ.own b) (hstill : ∀ b,τm.still b \/ τc.still b -> (T 0).τ.still b \/ (T 0).τ.own b) (hpass : ∀ b,τm.pass b \/ τc.pass b -> (T 0).τ.pass b \/ (T 0).τ.own b \/ (T 0).τ.still b)
  (hs1 : ∀ b,τm.own b -> ¬ τc.own b /\ ¬ τc.still b /\ ¬ τc.pass b) (hs2 : ∀ b,τc.own b -> ¬ τm.still b /\ ¬ τm.pass b)
  (hpub : ∀ a ∈ pub,(T 0).τ.own a /\ freshChan w a /\ ¬ τm.own a /\ ¬ τm.still a /\ ¬ τc.own a /\ ¬ τc.still a) (hinv : A.Inv (upd (upd (λ k => (T k).ph.proj) 0 (.run lm)) n (.run lc)) (ch.opn pub)) :
  Stat (ty:=ty) (Wg:=Wg) (A:=A) (n + 1) w (upd (upd T 0 ⟨.usr lm,rm,τm,gm⟩) n ⟨.usr lc,rc,τc,gc⟩) (ch.opn pub):=by
 have hn:=h.n0
 have hgn : (T n).ph = .gone:=h.out n (Nat.le_refl _)
 have nn:=h.nil n hgn
 generalize hU : upd (upd T 0 ⟨.usr lm,rm,τm,gm⟩) n ⟨.usr lc,rc,τc,gc⟩ = U
 have u0 : U 0 = ⟨.usr lm,rm,τm,gm⟩:=by rw [<- hU,upd_ne _ _ (by omega),upd_same]
 have un : U n = ⟨.usr lc,rc,τc,gc⟩:=by rw [<- hU,upd_same]
 have uk : ∀ k,k ≠ 0 -> k ≠ n -> U k = T k:=λ k h1 h2 => by rw [<- hU,upd_ne _ _ h2,upd_ne _ _ h1]
 have own : ∀ k b,(U k).τ.own b -> (T k).τ.own b \/ (k = n /\ (T 0).τ.own b):=λ k b hb => by
  by_cases k1 : k = 0
  ·subst k1; rw [u0] at hb; exact .inl (hown b (.inl hb))
  ·by_cases k2 : k = n
   ·subst k2; rw [un] at hb; exact .inr ⟨rfl,hown b (.inr hb)⟩
   ·rw [uk k k1 k2] at hb; exact .inl hb
 have eph : (λ k => (U k).ph) = upd (upd (λ k => (T k).ph) 0 (.usr lm)) n (.usr lc):=by rw [<- hU,ph_upd,ph_upd]
 have epr : (λ k => (U k).ph.proj) = upd (upd (λ k => (T k).ph.proj) 0 (.run lm)) n (.run lc):=by rw [<- hU,proj_upd,proj_upd]; rfl
 have sub : ∀ k b,(U k).τ.own b \/ (U k).τ.still b \/ (U k).τ.pass b -> k = 0 \/ k = n \/ (k ≠ 0 /\ k ≠ n):=λ k b _ => by omega
 refine ⟨by omega,λ k hk => ?_,by rw [u0]; trivial,λ k hk => ?_,λ k hk b => ?_,λ x k b hxk hb => ?_,λ k b hb => ?_,λ k b hb => ?_,λ k l' hk => ?_,λ c' b hc' => ?_,?_,by rw [epr]; exact hinv⟩
 ·rw [uk k (by omega) (by omega)]; exact h.out k (by omega)
 ·by_cases k2 : k = n
  ·subst k2; rw [un]; exact id
  ·rw [uk k hk k2]; exact h.role k hk
 ·have k1 : k ≠ 0:=λ e => by subst e; rw [u0] at hk; cases hk
  have k2 : k ≠ n:=λ e => by subst e; rw [un] at hk; cases hk
  rw [uk k k1 k2] at hk ⊢; exact h.nil k hk b
 ·by_cases x1 : x = 0
  ·subst x1
   rw [u0] at hb
   have ho:=hown b (.inl hb)
   by_cases k2 : k = n
   ·subst k2; rw [un]; exact hs1 b hb
   ·rw [uk k (Ne.symm hxk) k2]; exact h.sep 0 k b hxk ho
  ·by_cases x2 : x = n
   ·subst x2
    rw [un] at hb
    have ho:=hown b (.inr hb)
    by_cases k1 : k = 0
    ·subst k1; rw [u0]; exact ⟨λ e => (hs1 b e).1 hb,hs2 b hb⟩
    ·rw [uk k k1 (Ne.symm hxk)]; exact h.sep 0 k b (Ne.symm k1) ho
   ·rw [uk x x1 x2] at hb
    have s0:=h.sep x 0 b x1 hb
    by_cases k1 : k = 0
    ·subst k1; rw [u0]
     exact ⟨λ e => s0.1 (hown b (.inl e)),λ e => (hstill b (.inl e)).elim s0.2.1 s0.1,λ e => (hpass b (.inl e)).elim s0.2.2 λ z => z.elim s0.1 s0.2.1⟩
    ·by_cases k2 : k = n
     ·subst k2; rw [un]
      exact ⟨λ e => s0.1 (hown b (.inr e)),λ e => (hstill b (.inr e)).elim s0.2.1 s0.1,λ e => (hpass b (.inr e)).elim s0.2.2 λ z => z.elim s0.1 s0.2.1⟩
     ·rw [uk k k1 k2]; exact h.sep x k b hxk hb
 ·have key : (∃ j,(T j).τ.own b \/ (T j).τ.still b) /\ b ∉ pub:=by
   by_cases k1 : k = 0
   ·subst k1; rw [u0] at hb
    refine ⟨⟨0,hb.elim (λ e => .inl (hown b (.inl e))) λ e => (hstill b (.inl e)).symm⟩,λ hp => ?_⟩
    have:=hpub b hp
    exact hb.elim this.2.2.1 this.2.2.2.1
   ·by_cases k2 : k = n
    ·subst k2; rw [un] at hb
     refine ⟨⟨0,hb.elim (λ e => .inl (hown b (.inr e))) λ e => (hstill b (.inr e)).symm⟩,λ hp => ?_⟩
     have:=hpub b hp
     exact hb.elim this.2.2.2.2.1 this.2.2.2.2.2
    ·rw [uk k k1 k2] at hb
     refine ⟨⟨k,hb⟩,λ hp => ?_⟩
     have:=h.sep 0 k b (Ne.symm k1) (hpub b hp).1
     exact hb.elim this.1 this.2.1
  obtain ⟨⟨j,hj⟩,hnp⟩:=key
  have:=h.bnd j b hj
  exact ⟨this.1,this.2.1,by rw [opn_out hnp]; exact this.2.2⟩
 ·have key : ∃ j,(T j).τ.pass b \/ (T j).τ.own b \/ (T j).τ.still b:=by
   by_cases k1 : k = 0
   ·subst k1; rw [u0] at hb; exact ⟨0,hpass b (.inl hb)⟩
   ·by_cases k2 : k = n
    ·subst k2; rw [un] at hb; exact ⟨0,hpass b (.inr hb)⟩
    ·rw [uk k k1 k2] at hb; exact ⟨k,.inl hb⟩
  obtain ⟨j,hj | hj⟩:=key
  ·exact h.pas j b hj
  ·have:=h.bnd j b hj; exact ⟨this.1,this.2.1⟩
 ·have k1 : k ≠ 0:=λ e => by subst e; rw [u0] at hk; simp [Ph.proj] at hk
  have k2 : k ≠ n:=λ e => by subst e; rw [un] at hk; simp [Ph.proj] at hk
  rw [uk k k1 k2] at hk ⊢; exact h.depo k l' hk
 ·by_cases hcp : c' ∈ pub
  ·rw [opn_in hcp] at hc'
   obtain ⟨h1,h2,_⟩:=hpub c' hcp
   exact ⟨(h.bnd 0 c' (.inl h1)).2.1,0,0,by rw [<- Option.some.inj hc']; exact h2⟩
  ·rw [opn_out hcp] at hc'; exact h.chan c' b hc'
 ·rw [eph]
  refine h.grp.congr (.inr ⟨l,lm,hl,by rw [upd_ne _ _ (by omega),upd_same]⟩) ?_ λ j hj => ?_
  ·unfold vv
   have e1 : cnt (upd (upd (λ k => (T k).ph) 0 (.usr lm)) n (.usr lc)) (n + 1) = cnt (λ k => (T k).ph) n + 1:=by
    simp only [cnt]
    rw [cnt_upd_ge _ _ (Nat.le_refl n),cnt_upd0,upd_same]
    simp [Ph.pre]; omega
   have e2 : pnd A (upd (upd (λ k => (T k).ph) 0 (.usr lm)) n (.usr lc)) = 0:=by
    unfold pnd; rw [upd_ne _ _ (by omega),upd_same]; simp [hp2]
   have e3 : pnd A (λ k => (T k).ph) = 1:=by
    unfold pnd; simp only [hl,hp1,if_true]
   omega
  ·by_cases j1 : j = 0
   ·subst j1; rw [upd_ne _ _ (by omega),upd_same] at hj
    have : ((T 0).ph).last \/ False:=hj
    rw [hl] at this; exact (this.elim id id).elim
   ·by_cases j2 : j = n
    ·subst j2; rw [upd_same] at hj
     have : ((T j).ph).last \/ False:=hj
     rw [hgn] at this; exact (this.elim id id).elim
    ·rw [upd_ne _ _ j2,upd_ne _ _ j1]
end
end Go.Mt
namespace Go.Mt
open Go.Conc
open Go.ConcR (KK wgBlock WgAt stA smA rd wr mk)
section
variable {L : Type} (P : Program) (ty : TypeId) (Wg : Nat) (A : Proto L) (Fin : Goroutine -> World -> Prop) (Shun : Loc -> Prop)
structure Inv (gs : Array Goroutine) (w : World) (t : Trace) (T : Nat -> Td L) (ch : Chs) : Prop where
 st : Stat (ty:=ty) (Wg:=Wg) (A:=A) gs.size w T ch
 dy : Dyn (P:=P) (ty:=ty) (Wg:=Wg) (A:=A) (Fin:=Fin) gs w t T ch Shun
def Goal (m : Machine) (t : Trace) : Prop:=
 ∃ gs a w sl q,m = crowd gs w sl /\ gs[0]? = some a /\ a.status = .running /\ Fin a w /\ Leavers P t gs q /\ Past (λ l => Shun l \/ onB l Wg) w.heap.size t
def Res (gs : Array Goroutine) (w : World) (t : Trace) (T : Nat -> Td L) (sl : Option (Nat × Nat)) (i : Nat) : Prop:=
 ∃ m' ops,runT P (crowd gs w sl) i = (.next m',ops) /\
  (Goal P Wg Fin Shun m' (t ++ ops) \/ ∃ gs' w' sl' T' ch',m' = crowd gs' w' sl' /\ Inv P ty Wg A Fin Shun gs' w' (t ++ ops) T' ch' /\ Mu.lt (mu gs' T') (mu gs T))
end
section
variable {L : Type} {P : Program} {ty : TypeId} {Wg : Nat} {A : Proto L} {Fin : Goroutine -> World -> Prop} {Shun : Loc -> Prop}
variable {gs : Array Goroutine} {w w' : World} {t : Trace} {T : Nat -> Td L} {ch ch' : Chs} {sl : Option (Nat × Nat)} {i j : Nat} {x g' : Goroutine} {es : Array Event}
theorem suf_at (τ : Terr) (w : World) (d : Nat) : Suf ty Wg τ w (w.at d):=⟨rfl,rfl,rfl,Nat.le_refl _,λ _ _ => rfl,id⟩
theorem Inv.at (h : Inv P ty Wg A Fin Shun gs w t T ch) (d : Nat) : Inv P ty Wg A Fin Shun gs (w.at d) t T ch:=
 ⟨⟨h.st.n0,h.st.out,h.st.role0,h.st.role,h.st.nil,h.st.sep,h.st.bnd,h.st.pas,λ i l hi w₁ s => h.st.depo i l hi w₁ ((suf_at _ w d).trans s),h.st.chan,h.st.grp.of_block rfl,h.st.inv⟩,
  ⟨λ i x hi => (h.dy.sit i x hi).rely (suf_at _ w d),h.dy.slp,h.dy.slpC,h.dy.slpW,h.dy.tr⟩⟩
theorem cnt_zero {p : Nat -> Ph L} (h : ∀ j,j ≠ 0 -> (p j).pre = false) : ∀ n,cnt p n = 0
 | 0 => rfl
 | n + 1 => by
  simp only [cnt,cnt_zero h n]
  by_cases hn : n = 0
  ·simp [hn]
  ·simp [h n hn]
theorem Inv.some1 (hA : A.Ok) (h : Inv P ty Wg A Fin Shun gs w t T ch) : ∃ (i : Nat) (g : Goroutine),gs[i]? = some g /\ g.status = .running:=by
 refine Classical.byContradiction λ hno => ?_
 have hn : ∀ (i : Nat) (g : Goroutine),gs[i]? = some g -> g.status ≠ .running:=λ i g hg e => hno ⟨i,g,hg,e⟩
 have parkd : ∀ i l,(T i).ph = .usr l -> ∃ g,gs[i]? = some g /\ ParkC P ty Wg A (i == 0) (T i) g w:=by
  intro i l hl
  have hlt : i < gs.size:=by
   rcases Nat.lt_or_ge i gs.size with x | x
   ·exact x
   ·have:=h.st.out i x; rw [hl] at this; cases this
  refine ⟨gs[i],Array.getElem?_eq_getElem hlt,?_⟩
  have hs:=h.dy.sit i _ (Array.getElem?_eq_getElem hlt)
  rw [sits_stays (by rw [hl]; exact id)] at hs
  obtain ⟨r,_,_,hx | hx | hx⟩:=hs
  ·exact absurd hx.1 (hn i _ (Array.getElem?_eq_getElem hlt))
  ·exact hx
  ·have:=hx.1; rw [hl] at this; cases this
 have hpj : ∀ i l,(T i).ph.proj = .run l -> (T i).ph = .usr l:=by
  intro i l hi
  cases hph : (T i).ph <;> rw [hph] at hi <;> simp [Ph.proj] at hi
  rw [hi]
 have hsend : ∀ i l c ok pub nx,(T i).ph = .usr l -> A.act l = .send c ok pub nx -> ∃ g v z sh,gs[i]? = some (parked g #[scase c v z] sh):=by
  intro i l c ok pub nx hl ha
  obtain ⟨g,hg,l',cs,sh,h1,rfl,_,h4 | h4⟩:=parkd i l hl
  ·obtain ⟨c',ok',pub',nx',v,z,h5,h6,_⟩:=h4
   rw [hl] at h1; injection h1 with h1; subst h1
   rw [ha] at h5; injection h5 with h5; subst h5
   exact ⟨_,v,z,sh,by rw [hg,h6]⟩
  ·obtain ⟨c',ok',nx',s',z,b,h5,_⟩:=h4
   rw [hl] at h1; injection h1 with h1; subst h1
   rw [ha] at h5; cases h5
 have hrecv : ∀ i l c ok nx s,(T i).ph = .usr l -> A.act l = .recv c ok nx s -> ∃ g z sh,gs[i]? = some (parked g #[rcase c z] sh):=by
  intro i l c ok nx s hl ha
  obtain ⟨g,hg,l',cs,sh,h1,rfl,_,h4 | h4⟩:=parkd i l hl
  ·obtain ⟨c',ok',pub',nx',v,z,h5,_⟩:=h4
   rw [hl] at h1; injection h1 with h1; subst h1
   rw [ha] at h5; cases h5
  ·obtain ⟨c',ok',nx',s',z,b,h5,h6,_⟩:=h4
   rw [hl] at h1; injection h1 with h1; subst h1
   rw [ha] at h5; injection h5 with h5; subst h5
   exact ⟨_,z,sh,by rw [hg,h6]⟩
 have hb : ∀ i l,(T i).ph.proj = .run l -> A.Blocked (λ i => (T i).ph.proj) ch l:=by
  intro i l hi
  have hl:=hpj i l hi
  obtain ⟨g,hg,l',cs,sh,h1,rfl,_,h4⟩:=parkd i l hl
  rw [hl] at h1; injection h1 with h1; subst h1
  unfold Proto.Blocked
  rcases h4 with ⟨c,ok,pub,nx,v,z,h5,h6,_⟩ | ⟨c,ok,nx,s,z,b,h5,h6,_⟩
  ·rw [h5]
   rintro ⟨j,l',ok',nx',sh',hj,hj'⟩
   obtain ⟨gj,zj,shj,hgj⟩:=hrecv j l' c ok' nx' sh' (hpj j l' hj) hj'
   subst h6
   exact h.dy.slp i j _ _ _ _ _ _ _ _ hg hgj
  ·rw [h5]
   subst h6
   refine ⟨?_,?_⟩
   ·obtain ⟨b',hb'⟩:=hA.recvC _ ch i l c ok nx s h.st.inv hi h5
    cases b'
    ·exact hb'
    ·exact absurd hb' (h.dy.slpC i _ _ _ _ hg)
   ·rintro ⟨j,l',ok',pub',nx',hj,hj'⟩
    obtain ⟨gj,vj,zj,shj,hgj⟩:=hsend j l' c ok' pub' nx' (hpj j l' hj) hj'
    exact h.dy.slp j i _ _ _ _ _ _ _ _ hgj hg
 obtain ⟨hw0,hnr⟩:=hA.prog _ ch h.st.inv hb
 have hq : ∀ j,j ≠ 0 -> (T j).ph.leaves:=by
  intro j hj
  refine Classical.byContradiction λ hl => ?_
  have hlt : j < gs.size:=by
   rcases Nat.lt_or_ge j gs.size with x | x
   ·exact x
   ·exact absurd (by rw [h.st.out j x]; trivial) hl
  have hs:=h.dy.sit j _ (Array.getElem?_eq_getElem hlt)
  rw [sits_stays hl] at hs
  obtain ⟨r,_,_,hx | hx | hx⟩:=hs
  ·exact hn j _ (Array.getElem?_eq_getElem hlt) hx.1
  ·obtain ⟨l,_,_,h1,_⟩:=hx
   exact hnr j l (by show (T j).ph.proj = _; rw [h1]; rfl)
  ·have:=h.st.role j hj; rw [hx.1] at this; exact this trivial
 have h0:=h.dy.sit 0 _ (Array.getElem?_eq_getElem h.st.n0)
 have hl0 : ¬ (T 0).ph.leaves:=λ e => by
  have:=h.st.role0
  cases hp : (T 0).ph <;> rw [hp] at e this <;> first | exact e.elim | exact this.elim
 rw [sits_stays hl0] at h0
 obtain ⟨r,_,_,hx | hx | hx⟩:=h0
 ·exact hn 0 _ (Array.getElem?_eq_getElem h.st.n0) hx.1
 ·obtain ⟨l,_,_,h1,_⟩:=hx
  have : (T 0).ph.proj = .waits:=hw0
  rw [h1] at this; cases this
 ·have hg:=h.st.grp
  unfold Grp at hg
  simp only [hx.1] at hg
  have nolast : ∀ i,¬ (T i).ph.last:=λ i e => by
   by_cases hi : i = 0
   ·subst hi; rw [hx.1] at e; exact e
   ·have:=hq i hi
    cases hp : (T i).ph <;> rw [hp] at e this <;> first | exact e.elim | exact this.elim
  have hv : vv A (λ i => (T i).ph) gs.size = 0:=by
   unfold vv pnd
   simp only [hx.1,Nat.add_zero]
   refine cnt_zero (λ j hj => ?_) _
   have:=hq j hj
   cases hp : (T j).ph <;> rw [hp] at this <;> first | exact this.elim | rfl
  rcases hg with ⟨a,_⟩ | ⟨_,i,l,_,hc⟩ | ⟨_,_,hc⟩
  ·omega
  ·refine nolast i ?_
   rcases hc with ⟨c | c,_⟩ | ⟨c,_⟩ <;> rw [c] <;> trivial
  ·exact h.dy.slpW _ (Array.getElem?_eq_getElem h.st.n0) hx.1 (by rw [hx.2.1]) hc
theorem Inv.awake (h : Inv P ty Wg A Fin Shun gs w t T ch) : ∀ g ∈ gs,Conc.awake g:=by
 intro g hg
 obtain ⟨i,hi,rfl⟩:=Array.mem_iff_getElem.1 hg
 have:=(h.dy.sit i _ (Array.getElem?_eq_getElem hi)).status
 intro t e
 rcases this with x | x | x <;> rw [e] at x <;> cases x
theorem goRes (hi : gs[i]? = some x) (hn : 0 < gs.size) {Ti : Td L} (hstep : stepG P (i == 0) x w = .go g' w' es) (hr : Cl Ti.r (T i).r)
  (hS : Stat (ty:=ty) (Wg:=Wg) (A:=A) gs.size w' (upd T i Ti) ch')
  (hD : Dyn (P:=P) (ty:=ty) (Wg:=Wg) (A:=A) (Fin:=Fin) ((gs.map (woken P x g' w')).setIfInBounds i g') w' (t ++ MemOp.ofEvents i x.frame.fn x.frame.place es) (upd T i Ti) ch' Shun) : Res P ty Wg A Fin Shun gs w t T sl i:=by
 have hlt : i < gs.size:=(Array.getElem?_eq_some_iff.1 hi).1
 have hsz : ((gs.map (woken P x g' w')).setIfInBounds i g').size = gs.size:=by simp
 refine ⟨_,_,runT_crowd_go hi hstep,.inr ⟨_,_,sl,upd T i Ti,ch',rfl,⟨by rw [hsz]; exact hS,hD⟩,mu_dec (i:=i) (λ _ => hsz) (by omega) hlt (by omega) (by rw [upd_same]; exact hr) λ j hj => by rw [upd_ne _ _ (by omega)]⟩⟩
theorem Stat.tiEvents {n : Nat} (hS : Stat (ty:=ty) (Wg:=Wg) (A:=A) n w T ch) (hin : i < n) (hl : (T i).ph.live) (fn : FuncId) (pos : String)
  (h : TI Wg n (λ k => (T k).τ.own) (λ k b => (T k).τ.still b \/ (T k).τ.pass b) (λ k => (T k).ph.live) Shun w.heap.size t)
  (hes : ∀ e ∈ es,OkL Wg (T i).τ.own (λ b => (T i).τ.still b \/ (T i).τ.pass b) i w.heap.size e) :
  TI Wg n (λ k => (T k).τ.own) (λ k b => (T k).τ.still b \/ (T k).τ.pass b) (λ k => (T k).ph.live) Shun w.heap.size (t ++ MemOp.ofEvents i fn pos es):=by
 obtain ⟨l⟩:=es
 refine TI.events (live:=λ k => (T k).ph.live) (k:=i) hl hin (λ k' b _ hne hb => ?_) (λ k' b _ hne hb ho => ?_) (λ k' _ => ⟨λ e => (hS.bnd k' Wg (.inl e)).2.1 rfl,λ e => e.elim (λ e => (hS.bnd k' Wg (.inr e)).2.1 rfl) λ e => (hS.pas k' Wg e).2 rfl⟩) fn pos l h λ e he => hes e (by simpa using he)
 ·have:=hS.sep i k' b (Ne.symm hne) hb
  exact ⟨this.1,λ e => e.elim this.2.1 this.2.2⟩
 ·have:=hS.sep k' i b hne ho
  exact hb.elim this.2.1 this.2.2
theorem Stat.noWg {n : Nat} (hS : Stat (ty:=ty) (Wg:=Wg) (A:=A) n w T ch) : ∀ k',(T k').ph.live -> ¬ (T k').τ.own Wg /\ ¬ ((T k').τ.still Wg \/ (T k').τ.pass Wg):=
 λ k' _ => ⟨λ e => (hS.bnd k' Wg (.inl e)).2.1 rfl,λ e => e.elim (λ e => (hS.bnd k' Wg (.inr e)).2.1 rfl) λ e => (hS.pas k' Wg e).2 rfl⟩
theorem Dyn.keepC (h : Dyn (P:=P) (ty:=ty) (Wg:=Wg) (A:=A) (Fin:=Fin) gs w t T ch Shun) : ∀ (j : Nat) (gj : Goroutine) (c : Nat) (z : Value) (sh : CommShape),gs[j]? = some (parked gj #[rcase c z] sh) -> woken P x g' w' (parked gj #[rcase c z] sh) = parked gj #[rcase c z] sh -> ch c ≠ some true:=
 λ j gj c z sh hj _ => h.slpC j gj c z sh hj
theorem Dyn.keepW (h : Dyn (P:=P) (ty:=ty) (Wg:=Wg) (A:=A) (Fin:=Fin) gs w t T ch Shun) (e : WgAt ty Wg w' 0 1 -> WgAt ty Wg w 0 1) : i ≠ 0 -> ∀ x0,gs[0]? = some x0 -> (T 0).ph = .w3 -> x0.status = .blocked -> (woken P x g' w' x0).status = .blocked -> ¬ WgAt ty Wg w' 0 1:=
 λ _ x0 h0 h1 h2 _ h4 => h.slpW x0 h0 h1 h2 (e h4)
theorem Inv.leaver (h : Inv P ty Wg A Fin Shun gs w t T ch) (hi : gs[i]? = some x) (hrun : x.status = .running) (hl : (T i).ph.leaves) : Res P ty Wg A Fin Shun gs w t T sl i:=by
 have hs:=h.dy.sit i x hi
 rw [sits_leaves hl] at hs
 obtain ⟨q,hq,hQ⟩:=hs
 have hi0 : i ≠ 0:=λ e => by
  subst e
  have:=h.st.role0
  cases hp : (T 0).ph <;> rw [hp] at hl this <;> first | exact hl.elim | exact this.elim
 have hlt : i < gs.size:=(Array.getElem?_eq_some_iff.1 hi).1
 cases q with
 | zero => rw [hQ.1] at hrun; cases hrun
 | succ k =>
  rcases hQ with ⟨hf,_⟩ | ⟨_,g',es,hm,hst,hQ'⟩
  ·rw [hf] at hrun; cases hrun
  have hstep : stepG P (i == 0) x w = .go g' w es:=by
   have : (i == 0) = false:=by simpa using hi0
   rw [this]; exact hst w
  have hp : ∀ j,(upd T i ⟨(T i).ph,.inl k,(T i).τ,g'⟩ j).ph = (T j).ph:=λ j => by
   by_cases hj : j = i
   ·subst hj; simp [upd_same]
   ·simp [upd_ne _ _ hj]
  have ht : ∀ j,(upd T i ⟨(T i).ph,.inl k,(T i).τ,g'⟩ j).τ = (T j).τ:=λ j => by
   by_cases hj : j = i
   ·subst hj; simp [upd_same]
   ·simp [upd_ne _ _ hj]
  refine goRes hi h.st.n0 (Ti:=⟨(T i).ph,.inl k,(T i).τ,g'⟩) hstep (by rw [hq]; exact .inl (Nat.lt_succ_self k)) (h.st.same hp ht) ?_
  refine h.dy.go hi ((sits_leaves (T:=⟨(T i).ph,.inl k,(T i).τ,g'⟩) hl).2 ⟨k,rfl,hQ'⟩) (by rcases hQ'.status with e | e <;> rw [e] <;> simp) (λ j _ => Suf.refl) h.dy.keepC (h.dy.keepW id) ?_
  have e1 : (λ k' => (upd T i ⟨(T i).ph,.inl k,(T i).τ,g'⟩ k').τ.own) = λ k' => (T k').τ.own:=funext λ j => by rw [ht]
  have e2 : (λ k' b => (upd T i ⟨(T i).ph,.inl k,(T i).τ,g'⟩ k').τ.still b \/ (upd T i ⟨(T i).ph,.inl k,(T i).τ,g'⟩ k').τ.pass b) = λ k' b => (T k').τ.still b \/ (T k').τ.pass b:=funext λ j => by rw [ht]
  have e3 : (λ k' => (upd T i ⟨(T i).ph,.inl k,(T i).τ,g'⟩ k').ph.live) = λ k' => (T k').ph.live:=funext λ j => by rw [hp]
  rw [e1,e2,e3]
  exact h.dy.tr.mutes hlt h.st.noWg _ _ hm
theorem Inv.ownG {K : Bool -> Ph L -> Nat -> Terr -> Goroutine -> World -> Prop} (h : Inv P ty Wg A Fin Shun gs w t T ch) (hi : gs[i]? = some x) (haw : Awake x (T i).g) (hl : (T i).ph.live) {ι : Type} {f : ι -> Rk} (hr : (T i).r = .inr (.mk ι f))
  (hK : ∀ m ph d τ g w,K m ph d τ g w -> ∃ k,Beh P ty Wg A Fin (f k) m ph d τ g w) (ho : GoG P Wg K (i == 0) (T i).ph (Deaf t i) (T i).τ (T i).g w) : Res P ty Wg A Fin Shun gs w t T sl i:=by
 have hlt : i < gs.size:=(Array.getElem?_eq_some_iff.1 hi).1
 obtain ⟨g',w',es,hst,hrun',hg,hes,hk⟩:=ho
 obtain ⟨k,hB⟩:=hK _ _ _ _ _ _ hk
 have hnl : ¬ (T i).ph.leaves:=λ e => by cases hp : (T i).ph <;> rw [hp] at e hl <;> first | exact e.elim | exact hl.elim
 have hS:=h.st.grow hl hg (.inr (f k)) g'
 refine goRes hi h.st.n0 (Ti:=⟨(T i).ph,.inr (f k),(T i).τ.grow w w',g'⟩) (by rw [haw.step]; exact hst) (by rw [hr]; exact .inr (.mk f k)) hS ?_
 refine h.dy.go hi ((sits_stays (T:=⟨(T i).ph,.inr (f k),(T i).τ.grow w w',g'⟩) hnl).2 ⟨f k,rfl,hB,.inl (Awake.self hrun')⟩) (by rw [hrun']; simp) (λ j hj => h.st.suf hg hj) h.dy.keepC
  (h.dy.keepW λ e => (hg.keep Wg h.st.grp.live.lt λ e => ((h.st.bnd i Wg (.inl e)).2.1 rfl)).symm.trans e) ?_
 have hp : ∀ j,(upd T i ⟨(T i).ph,.inr (f k),(T i).τ.grow w w',g'⟩ j).ph = (T j).ph:=λ j => by
  by_cases hj : j = i
  ·subst hj; simp [upd_same]
  ·simp [upd_ne _ _ hj]
 have hti : upd T i ⟨(T i).ph,.inr (f k),(T i).τ.grow w w',g'⟩ i = ⟨(T i).ph,.inr (f k),(T i).τ.grow w w',g'⟩:=upd_same _ _ _
 refine hS.tiEvents hlt (by rw [hp]; exact hl) _ _ ?_ λ e he => ?_
 ·have e3 : (λ k' => (upd T i ⟨(T i).ph,.inr (f k),(T i).τ.grow w w',g'⟩ k').ph.live) = λ k' => (T k').ph.live:=funext λ j => by rw [hp]
  rw [e3]
  refine h.dy.tr.less (λ k' b _ hb => ?_) (λ k' b _ hb => ?_) hg.size
  ·by_cases hj : k' = i
   ·subst hj; rw [upd_same] at hb; exact hb.imp id (·.1)
   ·rw [upd_ne _ _ hj] at hb; exact .inl hb
  ·by_cases hj : k' = i
   ·subst hj; rw [upd_same] at hb; exact .inl hb
   ·rw [upd_ne _ _ hj] at hb; exact .inl hb
 ·rw [hti]
  refine okL_evT (hes e he) (λ b hb => .inl hb) (λ b hb => ?_) (by have:=h.st.grp.live.lt; have:=hg.size; omega)
  have:=hS.bnd i b (by rw [hti]; exact hb)
  exact ⟨this.1,this.2.1⟩
end
end Go.Mt
