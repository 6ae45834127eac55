/-
 Part 9 of what stands behind the last text.
-/
import Derived.Conc.TokenWalk
import Derived.Orders
import Derived.OrdersHeld
import Derived.Test.YtkfafknliihabaaDoorRows
import Derived.KernelRfl
import Derived.Test.YtkfafknliihabaaDoorDdsPq8
set_option linter.unusedSectionVars false
set_option linter.unusedSimpArgs false
set_option linter.unusedVariables false
namespace Go.Mt
open Go.Conc Go.Tt
open Go.ConcR (KK wgBlock WgAt stA smA rd wr DC0)
section
variable {p : Program}
def botF (p : Program) : Frame:={ (default : Frame) with fn:=p.funcs.size,defers:=[],mode:=.panicking [goexitEntry] }
theorem born_stepG {f : FuncId} {fn : Func} {c : Code} {cap args : Array Value} (hf : p.funcs[f]? = some fn) (hn : (fn.name == "runtime.NumGoroutine") = false) (hb : fn.body = some c) (w : World) :
  stepG p false (born p { target:=.fn (.func f) cap,args:=args }) w = .go (G ((baseD f).at ⟨(args ++ cap) ++ Array.replicate (fn.ntmps - (args ++ cap).size) undef,[]⟩ [.code c]) [botF p]) w #[]:=by
 have hn' : ¬ fn.name = "runtime.NumGoroutine" := by simpa using hn
 simp [born,stepG,unwind,callDeferred,invoke,callFunc,hf,hn',hb,seen,GStep.after,G,Frame.enter,Frame.at,baseD,botF]
theorem quits_child {f : FuncId} {fn : Func} (hf : p.funcs[f]? = some fn) (hr : fn.results = #[]) (T : Array Value) (todo : List Item) : QuitsD p 2 0 (G { (baseD f).at ⟨T,[]⟩ todo with mode:=.returning } [botF p]):=by
 refine QuitsD.ctl (g':=G (botF p) []) rfl (λ w => ?_) ?_
 ·simp [G,stepG,unwind,doReturn,results,Frame.at,baseD,botF,hf,hr,seen,GStep.after,goexitEntry]
 refine QuitsD.ctl (g':={ G (botF p) [] with status:=.finished }) rfl (λ w => ?_) ⟨rfl,rfl⟩
 simp [G,stepG,unwind,botF,goexitEntry,Frame.catches]
 rfl
def closeD (ats : Array TypeId) (ty : TypeId) (cs : Array Bool) (c : Nat) : Deferred:={ target:=.builtin .close ats ty cs,args:=#[.chan (some c)] }
theorem stepG_unwind_close {b : Frame} {a : Go.Act} {todo : List Item} {cs : List Frame} {ds : List Deferred} {ats : Array TypeId} {ty : TypeId} {cc : Array Bool} {c s r cap : Nat} {buf : Array Value} {tm : Bool} {w : World} (hd : a.defers = closeD ats ty cc c :: ds) (hc : w.heap[c]? = some (.chan cap buf false s r tm)) (hq : (p.funcs[b.fn]?).any (·.norace) = false) :
  stepG p false (G { b.at a todo with mode:=.returning } cs) w = .go (G { b.at ⟨a.tmps,ds⟩ todo with mode:=.returning } cs) (w.setChan c cap buf true s r tm) (closeEvents c):=by
 have hr : (invoke (.builtin .close ats ty cc) #[.chan (some c)]).run p w = .ok (.value (.tuple #[])) (w.setChan c cap buf true s r tm):=by
  simp [invoke,go_sem,run_close_open _ _ hc,World.setChan]
 have he : (invoke (.builtin .close ats ty cc) #[.chan (some c)]).events p w #[] = closeEvents c:=by
  simp [invoke,go_sem,events_close_open _ _ hc,closeEvents]
 have hl : seen p b.fn (closeEvents c) = closeEvents c:=seen_eq hq (by intro e he f; simp only [closeEvents,List.mem_toArray,List.mem_cons,List.not_mem_nil,or_false] at he; rcases he with rfl | rfl <;> simp)
 simp [G,stepG,unwind,callDeferred,Frame.at,hd,closeD,hr,he,hl,GStep.after]
end
section
variable [Go.ConcR.Payload] {Lk : Go.Conc.Lib.WgLink}
open Go.Conc.Lib Go.ConcR.Gen
theorem live_setChan {ty : TypeId} {Wg c : Nat} {w : World} (h : WgLive ty Wg w) {cap s r : Nat} {buf buf' : Array Value} {tm b b' : Bool} {s' r' cap' : Nat} (hc : w.heap[c]? = some (.chan cap buf b s r tm)) : WgLive ty Wg (w.setChan c cap' buf' b' s' r' tm):=by
 obtain ⟨x,y,h⟩:=h
 refine ⟨x,y,?_⟩
 have hne : c ≠ Wg:=λ e => by subst e; have h' : w.heap[c]? = some _:=h; rw [hc] at h'; cases h'
 show (w.setChan c cap' buf' b' s' r' tm).heap[Wg]? = _
 simp only [World.setChan,Array.getElem?_setIfInBounds_ne hne]
 exact h
theorem KeepF.triv (ty : TypeId) (Wg : Nat) (τ : Terr) : KeepF ty Wg τ (λ _ => True):=⟨λ _ _ _ _ => trivial,λ _ _ _ _ _ => trivial⟩
set_option maxRecDepth 100000 in
theorem child_end {L : Type} {p : Program} (H : WgLib p Lk) {A : Proto L} {Fin : Goroutine -> World -> Prop} {Wg c : Nat} {l nx : L} (hc : A.act l = .close c nx) (hd : A.act nx = .done) (hdep : ∀ w,A.dep nx w) {f : FuncId} {fn : Func} (hf : p.funcs[f]? = some fn) (hr : fn.results = #[]) (hq : fn.norace = false)
  {τ : Terr} (hp : τ.pass c) {w : World} (hlive : WgLive Lk.tWg Wg w) (T : Array Value) (todo : List Item) (ats : Array TypeId) (ty : TypeId) (cc : Array Bool) :
  BehE p Lk.tWg Wg A Fin false (.usr l) 0 τ (G { (baseD f).at ⟨T,[closeD ats ty cc c,dcall Lk.done #[.pointer (some ⟨Wg,0,none⟩)]]⟩ todo with mode:=.returning } [botF p]) w:=by
 refine BehE.usr rfl ?_
 unfold AtUsr
 rw [hc]
 refine ⟨rfl,hp,λ w₁ s s' r hcc => ⟨_,stepG_unwind_close rfl hcc (by show (p.funcs[f]?).any (·.norace) = false; rw [hf]; simp [hq]),rfl,?_⟩⟩
 have hl1 : WgLive Lk.tWg Wg (w₁.setChan c 0 #[] true s' r false):=live_setChan (s.live hlive) hcc
 refine beh_silent rfl rfl (λ W₁ s => stepG_unwind_enter rfl H.f_done (nm_done Lk) rfl) λ W₁ s => ?_
 have:=doneW (F:=λ _ => True) (Fin:=Fin) H hd (KeepF.triv Lk.tWg Wg τ) (λ w _ => hdep w) (c:={ (baseD f).at ⟨T,[]⟩ todo with mode:=.returning }) (cs:=[botF p]) rfl (quits_child hf hr T todo) W₁ ⟨trivial,s.live hl1⟩
 exact this
end
end Go.Mt
namespace Go.Mt
open Go.Conc Go.Tt
open Go.ConcR (KK wgBlock WgAt stA smA rd wr)
section
variable {S : FuncId -> Prop} {K K' R R' : Pr} {G : Gp} {St St' : Nat -> Prop} {w W : World}
theorem Pr.or_le {K K' R R' : Pr} (hK : K.le K') (hR : R.le R') : (R.or K).le (R'.or K'):=λ a b x => x.imp (hR a b) (hK a b)
theorem vr_monoK (hK : K.le K') {v v' : Value} (x : VR S K R v v') : VR S K' R v v':=by
 induction x with
 | bool b => exact .bool b
 | int k n => exact .int k n
 | string s => exact .string s
 | nilFunc => exact .nilFunc
 | nilIface => exact .nilIface
 | pointer x => exact .pointer x
 | slice x => exact .slice x
 | map x => exact .map x
 | chan x => exact .chan (x.mono (Pr.or_le hK (.refl _)))
 | func s e1 _ e2 _ i1 i2 => exact .func s e1 i1 e2 i2
 | iface _ ih => exact .iface ih
 | agg e _ ih => exact .agg e ih
 | tuple e _ ih => exact .tuple e ih
 | junk h => exact .junk h
theorem ArR.monoK (hK : K.le K') {xs xs' : Array Value} (x : ArR S K R xs xs') : ArR S K' R xs xs':=⟨x.1,λ i v v' h1 h2 => vr_monoK hK (x.2 i v v' h1 h2)⟩
theorem EntR.monoK (hK : K.le K') {e e' : MapEntry} (x : EntR S K R e e') : EntR S K' R e e':=by cases x with | mk a b => exact .mk (vr_monoK hK a) (vr_monoK hK b)
theorem ObR.monoK (hK : K.le K') {o o' : Obj} (x : ObR S K R o o') : ObR S K' R o o':=by
 cases x with
 | cells a b => exact .cells (ArR.monoK hK a) b
 | map a => exact .map ⟨a.1,λ i e e' h1 h2 => EntR.monoK hK (a.2 i e e' h1 h2)⟩
 | chan a => exact .chan (ArR.monoK hK a)
 | stringIter s p => exact .stringIter s p
 | number a => exact .number a
 | mapIter a => exact .mapIter a
theorem FmR.monoK {P : Pair} {fs : FuncId -> Bool} (hK : K.le K') {m m' : Fm} (x : FmR P fs K R m m') : FmR P fs K' R m m':=⟨x.fn,x.todo,x.ret,ArR.monoK hK x.tmps,x.fit,x.infs⟩
theorem MsR.monoK {P : Pair} {fs : FuncId -> Bool} (hK : K.le K') {ms ms' : List Fm} (x : MsR P fs K R ms ms') : MsR P fs K' R ms ms':=by
 induction x with
 | nil => exact .nil
 | cons a b _ ih => exact .cons (FmR.monoK hK a) b ih
theorem WRel.real {W' : World} (h : WRel S K R G St w W) (hk : ∀ a b,R a b -> W'.heap[b]? = W.heap[b]?) (hs : W.heap.size <= W'.heap.size) : WRel S K R G St w W':=by
 refine ⟨h.inj,h.inj',λ a b x => ⟨(h.lt a b x).1,Nat.lt_of_lt_of_le (h.lt a b x).2 hs⟩,h.low,⟨h.gle.1,Nat.le_trans h.gle.2 hs⟩,λ a b x => ?_,h.rest,h.st,h.np,h.tb⟩
 obtain ⟨o,o',h1,h2,h3⟩:=h.cont a b x
 exact ⟨o,o',h1,(hk a b x).trans h2,h3⟩
def put (w : World) (b : Nat) (o : Obj) : World:={ w with heap:=w.heap.setIfInBounds b o }
theorem heap_push (w : World) (o : Obj) : (w.alloc o).heap[w.heap.size]? = some o:=by unfold World.alloc; simp
theorem heap_push_lt {w : World} {o : Obj} {a : Nat} (h : a < w.heap.size) : (w.alloc o).heap[a]? = w.heap[a]?:=by unfold World.alloc; simp [Array.getElem?_push,Nat.ne_of_lt h]
theorem size_push (w : World) (o : Obj) : (w.alloc o).heap.size = w.heap.size + 1:=by unfold World.alloc; simp
theorem WRel.pushK (h : WRel S K R G St w W) {N : Nat} (hN : N < W.heap.size) (hf : ∀ a,¬ (R.or K) a N) : WRel S (K.add w.heap.size N) R G St (w.alloc waste) W:=by
 have hlt : ∀ a b,R.or K a b -> a ≠ w.heap.size:=λ a b x => Nat.ne_of_lt (h.lt a b x).1
 have lift : ∀ a,(∃ b,R.or K a b) -> (w.alloc waste).heap[a]? = w.heap[a]?:=λ a ⟨b,x⟩ => heap_push_lt (h.lt a b x).1
 refine ⟨?_,?_,?_,h.low,⟨by rw [size_push]; exact Nat.le_succ_of_le h.gle.1,h.gle.2⟩,λ a b x => ?_,?_,λ a x => ?_,h.np.push (by unfold waste; simp),h.tb⟩
 ·rintro a b c (x | x | ⟨rfl,rfl⟩) (y | y | ⟨e,rfl⟩)
  ·exact h.inj a b c (.inl x) (.inl y)
  ·exact h.inj a b c (.inl x) (.inr y)
  ·exact absurd e (hlt a b (.inl x))
  ·exact h.inj a b c (.inr x) (.inl y)
  ·exact h.inj a b c (.inr x) (.inr y)
  ·exact absurd e (hlt a b (.inr x))
  ·exact absurd rfl (hlt _ c (.inl y))
  ·exact absurd rfl (hlt _ c (.inr y))
  ·rfl
 ·rintro a b c (x | x | ⟨rfl,rfl⟩) (y | y | ⟨rfl,e⟩)
  ·exact h.inj' a b c (.inl x) (.inl y)
  ·exact h.inj' a b c (.inl x) (.inr y)
  ·exact absurd (e ▸ .inl x) (hf a)
  ·exact h.inj' a b c (.inr x) (.inl y)
  ·exact h.inj' a b c (.inr x) (.inr y)
  ·exact absurd (e ▸ .inr x) (hf a)
  ·exact absurd (.inl y) (hf b)
  ·exact absurd (.inr y) (hf b)
  ·rfl
 ·rintro a b (x | x | ⟨rfl,rfl⟩)
  ·exact ⟨by rw [size_push]; exact Nat.lt_succ_of_lt (h.lt a b (.inl x)).1,(h.lt a b (.inl x)).2⟩
  ·exact ⟨by rw [size_push]; exact Nat.lt_succ_of_lt (h.lt a b (.inr x)).1,(h.lt a b (.inr x)).2⟩
  ·exact ⟨by rw [size_push]; omega,hN⟩
 ·obtain ⟨o,o',h1,h2,h3⟩:=h.cont a b x
  exact ⟨o,o',(lift a ⟨b,.inl x⟩).trans h1,h2,ObR.monoK (Pr.le_add _ _ _) h3⟩
 ·rintro a b (x | ⟨rfl,rfl⟩) hn
  ·exact (lift a ⟨b,.inr x⟩).trans (h.rest a b x hn)
  ·exact heap_push w waste
 ·obtain ⟨⟨b,y⟩,c,T,hi,h1,h2⟩:=h.st a x
  exact ⟨⟨b,y⟩,c,T,hi,(lift a ⟨b,.inl y⟩).trans h1,h2⟩
theorem WRel.pushR (h : WRel S K R G St w W) {N : Nat} (hG : G.n <= N) (hf : ∀ a,¬ (R.or K) a N) {o o' : Obj} (hW : W.heap[N]? = some o') (ho : ObR S K (R.add w.heap.size N) o o') (hst : ∀ a,St' a -> a ≠ w.heap.size -> St a) (hs2 : St' w.heap.size -> ∃ c T hi,o = .cells c T (0,hi) /\ c.size <= hi) :
  WRel S K (R.add w.heap.size N) G St' (w.alloc o) W:=by
 have hN : N < W.heap.size:=(Array.getElem?_eq_some_iff.1 hW).1
 have hlt : ∀ a b,R.or K a b -> a ≠ w.heap.size:=λ a b x => Nat.ne_of_lt (h.lt a b x).1
 have lift : ∀ a,(∃ b,R.or K a b) -> (w.alloc o).heap[a]? = w.heap[a]?:=λ a ⟨b,x⟩ => heap_push_lt (h.lt a b x).1
 refine ⟨?_,?_,?_,?_,⟨by rw [size_push]; exact Nat.le_succ_of_le h.gle.1,h.gle.2⟩,?_,λ a b x hn => ?_,λ a x => ?_,h.np.push ho.live,λ g hg => .inl (h.tb g hg)⟩
 ·rintro a b c ((x | ⟨rfl,rfl⟩) | x) ((y | ⟨e,rfl⟩) | y)
  ·exact h.inj a b c (.inl x) (.inl y)
  ·exact absurd e (hlt a b (.inl x))
  ·exact h.inj a b c (.inl x) (.inr y)
  ·exact absurd rfl (hlt _ c (.inl y))
  ·rfl
  ·exact absurd rfl (hlt _ c (.inr y))
  ·exact h.inj a b c (.inr x) (.inl y)
  ·exact absurd e (hlt a b (.inr x))
  ·exact h.inj a b c (.inr x) (.inr y)
 ·rintro a b c ((x | ⟨rfl,rfl⟩) | x) ((y | ⟨rfl,e⟩) | y)
  ·exact h.inj' a b c (.inl x) (.inl y)
  ·exact absurd (e ▸ .inl x) (hf a)
  ·exact h.inj' a b c (.inl x) (.inr y)
  ·exact absurd (.inl y) (hf b)
  ·rfl
  ·exact absurd (.inr y) (hf b)
  ·exact h.inj' a b c (.inr x) (.inl y)
  ·exact absurd (e ▸ .inr x) (hf a)
  ·exact h.inj' a b c (.inr x) (.inr y)
 ·rintro a b ((x | ⟨rfl,rfl⟩) | x)
  ·exact ⟨by rw [size_push]; exact Nat.lt_succ_of_lt (h.lt a b (.inl x)).1,(h.lt a b (.inl x)).2⟩
  ·exact ⟨by rw [size_push]; omega,hN⟩
  ·exact ⟨by rw [size_push]; exact Nat.lt_succ_of_lt (h.lt a b (.inr x)).1,(h.lt a b (.inr x)).2⟩
 ·rintro a b (x | ⟨rfl,rfl⟩)
  ·exact h.low a b x
  ·have:=h.gle; constructor
   ·constructor <;> intro <;> omega
   ·intro; omega
 ·rintro a b (x | ⟨rfl,rfl⟩)
  ·obtain ⟨y,y',h1,h2,h3⟩:=h.cont a b x
   exact ⟨y,y',(lift a ⟨b,.inl x⟩).trans h1,h2,h3.mono (Pr.le_add _ _ _)⟩
  ·exact ⟨o,o',heap_push w o,hW,ho⟩
 ·exact (lift a ⟨b,.inr x⟩).trans (h.rest a b x λ c y => hn c (.inl y))
 ·by_cases e : a = w.heap.size
  ·subst e
   obtain ⟨c,T,hi,e1,e2⟩:=hs2 x
   exact ⟨⟨N,.inr ⟨rfl,rfl⟩⟩,c,T,hi,(heap_push w o).trans (by rw [e1]),e2⟩
  ·obtain ⟨⟨b,y⟩,c,T,hi,h1,h2⟩:=h.st a (hst a x e)
   exact ⟨⟨b,.inl y⟩,c,T,hi,(lift a ⟨b,.inl y⟩).trans h1,h2⟩
end
structure IM (W0 : World) (St : Nat -> Prop) (Shun : Loc -> Prop) (Wg : Nat) (SS : Nat -> Prop) (R : Pr) (τ : Terr) (W : World) : Prop where
 kp : Kp W0 R St W
 sh : Sh W0.heap.size Shun R W
 still : τ.still = SS
 wg : Wg < W.heap.size
 own : ∀ b,τ.own b -> b ≠ Wg
 rel : ∀ a b,R a b -> b ≠ Wg
section
variable {L : Type} {C : Cx L} {W0 : World} {St : Nat -> Prop} {Shun : Loc -> Prop} {SS : Nat -> Prop}
theorem im_ok (hC : C.I = IM W0 St Shun C.Wg SS) (hst : ∀ a,St a -> C.St a) (hSS : ∀ b,b < W0.heap.size -> SS b) : IOk C:=by
 refine ⟨λ R τ W W₁ h s => ?_,λ R τ W R1 W1 h ht hs => ?_⟩ <;> rw [hC] at *
 ·refine ⟨⟨s.os.trans h.kp.os,s.tape.trans h.kp.tape,s.output.trans h.kp.output,Nat.le_trans h.kp.size s.size,λ b hb => (s.keep b (.inr (by rw [h.still]; exact hSS b hb))).trans (h.kp.block b hb),h.kp.old⟩,⟨h.sh.old,h.sh.rel,λ l b hl hb => h.sh.new l b hl (Nat.le_trans s.size hb)⟩,h.still,Nat.lt_of_lt_of_le h.wg s.size,h.own,h.rel⟩
 ·refine ⟨⟨hs.os.trans h.kp.os,hs.tape.trans h.kp.tape,hs.output.trans h.kp.output,Nat.le_trans h.kp.size hs.size,λ b hb => ?_,λ a b x hb => ?_⟩,⟨h.sh.old,λ a b x l hl => ?_,λ l b hl hb => h.sh.new l b hl (Nat.le_trans hs.size hb)⟩,h.still,Nat.lt_of_lt_of_le h.wg hs.size,λ b hb => ?_,λ a b x => ?_⟩
  ·rw [hs.keep b (Nat.lt_of_lt_of_le hb h.kp.size) (λ a x => hst a (h.kp.old a b x hb))]
   exact h.kp.block b hb
  ·rcases hs.new a b x with y | ⟨y,_⟩
   ·exact h.kp.old a b y hb
   ·have:=h.kp.size; omega
  ·rcases hs.new a b x with y | ⟨y,_⟩
   ·exact h.sh.rel a b y l hl
   ·exact h.sh.new l b hl y
  ·rcases hb with hb | ⟨hb,_⟩
   ·exact h.own b hb
   ·have:=h.wg; omega
  ·rcases hs.new a b x with y | ⟨y,_⟩
   ·exact h.rel a b y
   ·have:=h.wg; omega
theorem setCell_ne (W : World) (a : Addr) (v : Value) {b : Nat} (h : b ≠ a.block) : (W.setCell a v).heap[b]? = W.heap[b]?:=(aside_setCell W a v).block b h
theorem setCell_size (W : World) (a : Addr) (v : Value) : (W.setCell a v).heap.size = W.heap.size:=(aside_setCell W a v).size
theorem IM.cell {R : Pr} {τ : Terr} {W : World} {Wg : Nat} (h : IM W0 St Shun Wg SS R τ W) (hW : W0.heap.size <= Wg) {a : Addr} (ha : a.block = Wg) (v : Value) : IM W0 St Shun Wg SS R τ (W.setCell a v):=by
 have hA:=aside_setCell W a v
 refine ⟨⟨hA.os.trans h.kp.os,hA.tape.trans h.kp.tape,hA.output.trans h.kp.output,by rw [setCell_size]; exact h.kp.size,λ b hb => (setCell_ne W a v (by omega)).trans (h.kp.block b hb),h.kp.old⟩,⟨h.sh.old,h.sh.rel,λ l b hl hb => h.sh.new l b hl (by rw [setCell_size] at hb; exact hb)⟩,h.still,by rw [setCell_size]; exact h.wg,h.own,h.rel⟩
end
end Go.Mt
namespace Go.Mt
open Go.Conc Go.Tt
open Go.ConcR (KK wgBlock WgAt stA smA rd wr DC0)
section
variable {L : Type} {C : Cx L} {l : L}
theorem BO.regs (hI : IOk C) {fn : FuncId} {tmps : Array Value} {k : List Item} {w : World} {id : Nat} {ops : Array Oper} (is : List Nat) (hr : List.range ops.size = is) (h : BO C l ⟨fn,tmps,.inRegion ops is :: k,false⟩ w) : BO C l ⟨fn,tmps,.code (.region id ops false) :: k,false⟩ w:=BO.reg hI (by rw [hr]; exact h)
def Cx.dfr (C : Cx L) (d : Deferred) : Cx L:={ C with ds:=⟨d :: C.ds.ds,C.ds.kd,C.ds.ok⟩ }
theorem IOk.dfr (hI : IOk C) (d : Deferred) : IOk (C.dfr d):=⟨hI.suf,hI.step⟩
theorem defer_step {p : Program} {main : Bool} {b : Frame} {a : Go.Act} {k : List Item} {cs : List Frame} {w : World} {ops : Array Oper} {i : Nat} {rest : List Nat} {o : Oper} {d : Deferred} (ho : ops[i]? = some o) (hw : Region.wanted o (yielded ops a.tmps) = true) (hk : b.kind ≠ .early) (hdst : o.dst = none)
  (hr : (execOp a.eval o).run p w = .ok (.defer d) w) (he : (execOp a.eval o).events p w #[] = #[]) :
  stepG p main (G (b.at a (.inRegion ops (i :: rest) :: k)) cs) w = .go (G (b.at ⟨a.tmps,d :: a.defers⟩ (.inRegion ops rest :: k)) cs) w #[]:=by
 have hfin : (b.at ⟨a.tmps,d :: a.defers⟩ (.inRegion ops (i :: rest) :: k)).finish undef = b.at ⟨a.tmps,d :: a.defers⟩ (.inRegion ops rest :: k):=by rw [Frame.finish_at,ho]; simp [hdst,Go.Act.put]
 have hk' : (b.kind == CallKind.early) = false:=by simpa using hk
 rw [stepG_oper ho hw,<- hfin]
 simp [stepG.apply,hr,he,G,Frame.at,hk',GStep.after,seen_none]
theorem BO.defer (hI : IOk C) {fn : FuncId} {tmps : Array Value} {ops : Array Oper} {i : Nat} {rest : List Nat} {k : List Item} {w : World} {o : Oper} {d : Deferred} (ho : ops[i]? = some o) (hwt : Region.wanted o (yielded ops tmps) = true) (hdst : o.dst = none)
  (hx : ∀ R w W tmps',C.Rel R w W -> ArR (SF C.fs) C.K R tmps tmps' -> (∀ x ∈ C.pin,tmps'.getD x.1 undef = x.2) -> ∀ W₁,(execOp (Go.Act.mk tmps' C.ds.ds).eval o).run C.p W₁ = .ok (.defer d) W₁ /\ (execOp (Go.Act.mk tmps' C.ds.ds).eval o).events C.p W₁ #[] = #[])
  (h : BO (C.dfr d) l ⟨fn,tmps,.inRegion ops rest :: k,false⟩ w) : BO C l ⟨fn,tmps,.inRegion ops (i :: rest) :: k,false⟩ w:=by
 intro R W m' τ hw hm ht hi
 obtain ⟨fn',tmps',todo',ret'⟩:=m'
 obtain rfl:=hm.fn
 obtain rfl:=hm.todo
 obtain rfl:=hm.ret
 rw [fx_at]
 refine Cx.silent rfl rfl (g':=G ((C.ds.base fn).at ⟨tmps',d :: C.ds.ds⟩ (.inRegion ops rest :: k)) C.base) (λ W₁ s => ?_) λ W₁ s => ?_
 ·obtain ⟨h1,h2⟩:=hx R w W tmps' hw hm.tmps hm.pins W₁
  exact defer_step ho (wanted_rel (C:=C) hm.tmps hwt) C.ds.ok hdst h1 h2
 ·have:=h R W₁ ⟨fn,tmps',.inRegion ops rest :: k,false⟩ τ (Cx.Rel.suf (C:=C) hw ht s) ⟨rfl,rfl,rfl,hm.tmps,hm.pins⟩ ht (hI.suf _ _ _ _ hi s)
  rw [fx_at] at this
  exact this
theorem exec_deferF {p : Program} {o : Oper} {f : FuncId} {ars : Array Operand} {ats : Array TypeId} {ρ : Operand -> Value} (hop : o.op = .defer { callee:=.value (.func f),args:=ars,argTypes:=ats }) (hρ : ρ (.func f) = .func (.func f) #[] #[]) (w : World) :
  (execOp ρ o).run p w = .ok (.defer (dcall f (ars.map ρ))) w /\ (execOp ρ o).events p w #[] = #[]:=by
 obtain ⟨dst,op',type,pos,after,guard⟩:=o
 simp only at hop
 subst hop
 constructor
 ·simp [execOp,resolve,Deferred.ofValue,hρ,dcall,bind,Sem.bind,pure,Sem.run]
 ·simp [execOp,resolve,Deferred.ofValue,hρ,dcall,bind,Sem.bind,pure,Sem.run,Sem.events,Sem.runT]
theorem exec_deferC {p : Program} {o : Oper} {x : Tmp} {ats : Array TypeId} {ρ : Operand -> Value} {c : Nat} (hop : o.op = .defer { callee:=.builtin .close,args:=#[.tmp x],argTypes:=ats }) (hx : ρ (.tmp x) = .chan (some c)) (w : World) :
  (execOp ρ o).run p w = .ok (.defer (closeD ats o.type #[false] c)) w /\ (execOp ρ o).events p w #[] = #[]:=by
 obtain ⟨dst,op',type,pos,after,guard⟩:=o
 simp only at hop
 subst hop
 constructor
 ·simp [execOp,resolve,hx,closeD,bind,Sem.bind,pure,Sem.run]
 ·simp [execOp,resolve,hx,closeD,bind,Sem.bind,pure,Sem.run,Sem.events,Sem.runT]
structure IC (ty : TypeId) (Wg c : Nat) (R : Pr) (τ : Terr) (W : World) : Prop where
 pass : τ.pass c
 own : ¬ τ.own Wg
 lt : Wg < W.heap.size
 live : WgLive ty Wg W
theorem ic_ok {c : Nat} (hC : C.I = IC C.ty C.Wg c) : IOk C:=by
 refine ⟨λ R τ W W₁ h s => ?_,λ R τ W R1 W1 h ht hs => ?_⟩ <;> rw [hC] at *
 ·exact ⟨h.pass,h.own,Nat.lt_of_lt_of_le h.lt s.size,s.live h.live⟩
 ·refine ⟨h.pass,λ e => e.elim h.own λ x => ?_,Nat.lt_of_lt_of_le h.lt hs.size,?_⟩
  ·have:=h.lt; omega
  ·obtain ⟨a,b,hl⟩:=h.live
   exact ⟨a,b,(hs.keep C.Wg h.lt λ a x => Classical.byContradiction λ z => h.own ((ht a _ x).2 z)).trans hl⟩
theorem fin_goes {p : Program} {Post : Value -> World -> Prop} {Shun : Loc -> Prop} : ∀ (n : Nat) (g : Goroutine) (w : World),Goes p true AtRel DC0 (λ g w => J p Post Shun w.heap.size g w) n g w -> J p Post Shun w.heap.size g w:=by
 intro n
 induction n with
 | zero => exact λ g w h => by have:=h w ⟨w.drawn,rfl⟩; exact this
 | succ n ih =>
  intro g w h
  rcases h with h | ⟨hs,h⟩
  ·have:=h w ⟨w.drawn,rfl⟩; exact this
  ·refine J.own hs λ d => ?_
   obtain ⟨g₁,w',es,hgo,⟨e1,e2⟩,hg⟩:=goes_elim (h (w.at d) ⟨d,rfl⟩)
   subst e1 e2
   exact ⟨g₁,_,#[],_,hgo,λ e he => by simp at he,Nat.le_refl _,ih _ _ hg⟩
theorem exec_load1 {p : Program} {o : Oper} {t : TypeId} {x : Operand} {ρ : Operand -> Value} {a : Addr} {v : Value} {w : World} (hop : o.op = .load t x) (hx : ρ x = .pointer (some a)) (hagg : (isAgg t).run p w = .ok false w) (hc : w.cell? a = some v) : (execOp ρ o).run p w = .ok (.value v) w:=by
 obtain ⟨dst,op',type,pos,after,guard⟩:=o
 simp only at hop
 subst hop
 simp [execOp,Instr.loadAt,hx,go_sem,loadVar,hagg,hc]
theorem exec_loadRow {p : Program} {o : Oper} {t T : TypeId} {x : Operand} {ρ : Operand -> Value} {g : Nat} {cs : Array Value} {fr : Nat × Nat} {d : TypeDesc} {w : World} (hop : o.op = .load t x) (hx : ρ x = .pointer (some ⟨g,0,none⟩)) (hg : w.heap[g]? = some (.cells cs T fr))
  (hu : p.underlying t = some d) (hd : (match d with | .struct _ | .array _ _ => true | _ => false) = true) (hi : (p.info? t).map (·.size) = some cs.size) : (execOp ρ o).run p w = .ok (.value (.agg cs)) w:=by
 obtain ⟨dst,op',type,pos,after,guard⟩:=o
 simp only at hop
 subst hop
 have e : Instr.loadAt t (ρ x) = loadVar t ⟨g,0,none⟩:=by rw [hx]; rfl
 have hv:=run_loadVar_row w g T t cs fr d hg hu hd hi
 show Sem.run p (Sem.bind (Instr.loadAt t (ρ x)) (λ v => Sem.pure (Next.value v))) w = _
 rw [Sem.run_bind',e,hv]
 rfl
end
theorem run_bv {p : Program} {s : Sem Value} {w w' : World} {v : Value} (h : s.run p w = .ok v w') : Sem.run p (Sem.bind s (λ v => Sem.pure (Next.value v))) w = .ok (.value v) w':=by rw [Sem.run_bind',h]; rfl
theorem ev_bv {p : Program} {s : Sem Value} {w w' : World} {v : Value} {es es' : Array Event} (h : s.run p w = .ok v w') (he : s.events p w es = es') : Sem.events p (Sem.bind s (λ v => Sem.pure (Next.value v))) w es = es':=by rw [Sem.events_bind',h,Result.evThen_ok,he]; rfl
section
variable {p : Program} {Post : Value -> World -> Prop} {Shun : Loc -> Prop}
theorem J.sil {B : Nat} {g g' : Goroutine} {w : World} (hg : g.status = .running) (hst : ∀ w,stepG p true g w = .go g' w #[]) (h : ∀ d,J p Post Shun B g' (w.at d)) : ∀ d,J p Post Shun B g (w.at d):=λ d =>
 J.own hg λ d' => ⟨g',w.at d',#[],B,hst _,λ e he => by simp at he,Nat.le_refl _,h d'⟩
theorem J.opv {b : Frame} {a : Go.Act} {ops : Array Oper} {i : Nat} {rest : List Nat} {k : List Item} {cs : List Frame} {w w' : World} {o : Oper} {v : Value} (ho : ops[i]? = some o) (hw : Region.wanted o (yielded ops a.tmps) = true) (hk : b.kind ≠ .early)
  (hr : ∀ d,(execOp a.eval o).run p (w.at d) = .ok (.value v) (w'.at d) \/ ((execOp a.eval o).run p (w.at d) = .ok .skip (w'.at d) /\ v = undef)) (he : ∀ d,∀ e ∈ (execOp a.eval o).events p (w.at d) #[],EvL Shun w'.heap.size e) (hsz : w.heap.size <= w'.heap.size)
  (h : ∀ d,J p Post Shun w'.heap.size (G (b.at (a.put o.dst v) (.inRegion ops rest :: k)) cs) (w'.at d)) : ∀ d,J p Post Shun w.heap.size (G (b.at a (.inRegion ops (i :: rest) :: k)) cs) (w.at d):=λ d => by
 refine J.own rfl λ d' => ⟨_,w'.at d',listed p b.fn a o (w.at d'),w'.heap.size,?_,λ e hx => he d' e (mem_listed' hx),hsz,h d'⟩
 rcases hr d' with h1 | ⟨h1,h2⟩
 ·exact stepG_value ho hw hk h1
 ·rw [h2]; exact stepG_none ho hw hk h1
 where mem_listed' {p : Program} {f : FuncId} {a : Go.Act} {o : Oper} {w : World} {e : Event} (h : e ∈ listed p f a o w) : e ∈ (execOp a.eval o).events p w #[]:=mem_seen h
theorem J.opq {B : Nat} {b : Frame} {a : Go.Act} {ops : Array Oper} {i : Nat} {rest : List Nat} {k : List Item} {cs : List Frame} {w w' : World} {o : Oper} {v : Value} (ho : ops[i]? = some o) (hw : Region.wanted o (yielded ops a.tmps) = true) (hk : b.kind ≠ .early)
  (hr : ∀ d,(execOp a.eval o).run p (w.at d) = .ok (.value v) (w'.at d)) (he : ∀ d,∀ e ∈ (execOp a.eval o).events p (w.at d) #[],False)
  (h : ∀ d,J p Post Shun B (G (b.at (a.put o.dst v) (.inRegion ops rest :: k)) cs) (w'.at d)) : ∀ d,J p Post Shun B (G (b.at a (.inRegion ops (i :: rest) :: k)) cs) (w.at d):=λ d =>
 J.own rfl λ d' => ⟨_,w'.at d',listed p b.fn a o (w.at d'),B,stepG_value ho hw hk (hr d'),λ e hx => (he d' e (mem_seen hx)).elim,Nat.le_refl _,h d'⟩
theorem evL_own {Shun : Loc -> Prop} {B : Nat} {a : Addr} {wr sy : Bool} (hs : ¬ Shun (.cell a)) (hb : a.block < B) : EvL Shun B ⟨.cell a,wr,sy⟩:=by
 refine ⟨λ x hx hsh => ?_,by simp,by simp,?_⟩
 ·have : x.loc = .cell a:=by
   cases wr <;> cases sy <;> simp only [MemAct.ofEvent,MemAct.touch?,Option.some.injEq] at hx <;> first | (subst hx; rfl) | (cases hx; done)
  exact absurd (this ▸ hsh) hs
 ·cases wr <;> cases sy <;> exact hb
end
end Go.Mt
namespace Go.Mt
open Go.Conc Go.Tt
structure Blk where
 rb : Nat
 off : Nat
 cs : Array Value
 T : TypeId
 fz : Nat × Nat
def plainV (v : Value) : Prop:=(∃ k n,v = .int k n) \/ (∃ s,v = .string s) \/ ∃ b,v = .bool b
inductive Uni : Value -> Prop
 | bool (b : Bool) : Uni (.bool b)
 | int (k : IntKind) (n : Int) : Uni (.int k n)
 | string (s : ByteArray) : Uni (.string s)
 | nilFunc : Uni .nilFunc
 | nilIface : Uni .nilIface
 | agg {xs : Array Value} : (∀ (i : Nat) (v : Value),xs[i]? = some v -> Uni v) -> Uni (.agg xs)
 | tuple {xs : Array Value} : (∀ (i : Nat) (v : Value),xs[i]? = some v -> Uni v) -> Uni (.tuple xs)
def thaw (w : World) : Option Blk -> World
 | none => w
 | some b => put w b.rb (.cells b.cs b.T b.fz)
section
variable {S : FuncId -> Prop} {K R : Pr} {G : Gp} {St : Nat -> Prop} {w W W4 : World} {A : Option Addr} {src : Option Blk}
abbrev P0 : Pr:=λ _ _ => False
def stC (w : World) (a : Nat) : Prop:=a = w.heap.size + 1 \/ a = w.heap.size + 2 \/ a = w.heap.size + 3
end
section
variable {L : Type} {C : Cx L} {W0 : World} {St : Nat -> Prop} {Shun : Loc -> Prop} {SS : Nat -> Prop}
structure IMX (W0 : World) (St : Nat -> Prop) (Shun : Loc -> Prop) (Wg : Nat) (SS : Nat -> Prop) (R0 : Pr) (Fz : Nat -> Prop) (Wf : World) (R : Pr) (τ : Terr) (W : World) : Prop where
 im : IM W0 St Shun Wg SS R τ W
 le : R0.le R
 fz : ∀ b,Fz b -> b < W.heap.size /\ W.heap[b]? = Wf.heap[b]? /\ ¬ τ.own b /\ b ≠ Wg
structure IX (ty : TypeId) (Wg : Nat) (I : Pr -> Terr -> World -> Prop) : Prop where
 suf : ∀ R τ W W₁,I R τ W -> Suf ty Wg τ W W₁ -> I R τ W₁
 cell : ∀ R τ W a v,I R τ W -> a.block = Wg -> I R τ (W.setCell a v)
 at_ : ∀ R τ W d,I R τ W -> I R τ (W.at d)
 rel : ∀ R τ W,I R τ W -> ∀ a b,R a b -> b ≠ Wg
def withLive (ty : TypeId) (Wg : Nat) (I : Pr -> Terr -> World -> Prop) : Pr -> Terr -> World -> Prop:=λ R τ W => I R τ W /\ WgLive ty Wg W
theorem imx_ix {ty : TypeId} {W0 : World} {St : Nat -> Prop} {Shun : Loc -> Prop} {Wg : Nat} {SS : Nat -> Prop} {R0 : Pr} {Fz : Nat -> Prop} {Wf : World} (hSS : ∀ b,b < W0.heap.size -> SS b) (hF : ∀ b,Fz b -> SS b) (hlow : W0.heap.size <= Wg) : IX ty Wg (IMX W0 St Shun Wg SS R0 Fz Wf):=by
 refine ⟨λ R τ W W₁ h s => ?_,λ R τ W a v h ha => ?_,λ R τ W d h => ?_,λ R τ W h => h.im.rel⟩
 ·have h0 : IOk (L:=Unit) ⟨default,λ _ => false,λ _ => false,ty,Wg,⟨λ _ => .wait,λ _ _ => True,λ _ => false,λ _ => True,λ _ _ => True⟩,λ _ _ => True,true,[],.nil,λ _ _ => False,λ _ => True,IM W0 St Shun Wg SS,[],none,λ _ h => by cases h⟩:=im_ok rfl (λ _ _ => trivial) hSS
  refine ⟨h0.suf R τ W W₁ h.im s,h.le,λ b hb => ?_⟩
  obtain ⟨f1,f2,f3,f4⟩:=h.fz b hb
  exact ⟨Nat.lt_of_lt_of_le f1 s.size,(s.keep b (.inr (by rw [h.im.still]; exact hF b hb))).trans f2,f3,f4⟩
 ·refine ⟨IM.cell h.im hlow ha v,h.le,λ b hb => ?_⟩
  obtain ⟨f1,f2,f3,f4⟩:=h.fz b hb
  exact ⟨by rw [setCell_size]; exact f1,(setCell_ne W a v (by rw [ha]; exact f4)).trans f2,f3,f4⟩
 ·exact ⟨⟨⟨h.im.kp.os,h.im.kp.tape,h.im.kp.output,h.im.kp.size,h.im.kp.block,h.im.kp.old⟩,⟨h.im.sh.old,h.im.sh.rel,h.im.sh.new⟩,h.im.still,h.im.wg,h.im.own,h.im.rel⟩,h.le,h.fz⟩
theorem imx_ok {R0 : Pr} {Fz : Nat -> Prop} {Wf : World} (hC : C.I = withLive C.ty C.Wg (IMX W0 St Shun C.Wg SS R0 Fz Wf)) (hst : ∀ a,St a -> C.St a) (hSS : ∀ b,b < W0.heap.size -> SS b) (hF : ∀ b,Fz b -> SS b) (hlow : W0.heap.size <= C.Wg) : IOk C:=by
 have h0 : IOk { C with I:=IM W0 St Shun C.Wg SS }:=im_ok (C:={ C with I:=IM W0 St Shun C.Wg SS }) rfl hst hSS
 have hx:=imx_ix (ty:=C.ty) (St:=St) (Shun:=Shun) (R0:=R0) (Wf:=Wf) hSS hF hlow
 refine ⟨λ R τ W W₁ h s => ?_,λ R τ W R1 W1 h ht hs => ?_⟩ <;> rw [hC] at *
 ·exact ⟨hx.suf R τ W W₁ h.1 s,s.live h.2⟩
 ·refine ⟨⟨h0.step R τ W R1 W1 h.1.im ht hs,h.1.le.trans hs.le,λ b hb => ?_⟩,?_⟩
  ·obtain ⟨f1,f2,f3,f4⟩:=h.1.fz b hb
   refine ⟨Nat.lt_of_lt_of_le f1 hs.size,(hs.keep b f1 λ a x => Classical.byContradiction λ z => f3 ((ht a _ x).2 z)).trans f2,λ e => e.elim f3 λ x => ?_,f4⟩
   omega
  ·obtain ⟨a,b,hl⟩:=h.2
   exact ⟨a,b,(hs.keep C.Wg h.1.im.wg λ a x => Classical.byContradiction λ z => h.1.im.own _ ((ht a _ x).2 z) rfl).trans hl⟩
end
end Go.Mt
namespace Go.Mt
open Go.Conc Go.Tt
section
variable {p : Program} {op gs gs₁ fs : FuncId -> Bool} {St : Nat -> Prop} {W0 : World} {Post : Value -> World -> Prop}
theorem JO.callN (L : Lv p op gs gs₁ fs) {m : Fm} {ms : List Fm} {w : World} {ops : Array Oper} {i : Nat} {rest : List Nat} {k : List Item} {o : Oper} {f : FuncId} {args : Array Operand} {ats : Array TypeId} {fn : Func} {c : Code} (hr : m.ret = false) (htd : m.todo = .inRegion ops (i :: rest) :: k)
  (ho : ops[i]? = some o) (hwt : Region.wanted o (yielded ops m.tmps) = true) (hop : o.op = .call ⟨.value (.func f),args,ats⟩) (hof : op f = false) (hf : p.funcs[f]? = some fn) (hn : (fn.name == "runtime.NumGoroutine") = false) (hb : fn.body = some c)
  (hJ : JL p op gs fs St W0 Post ⟨f,args.map m.eval ++ Array.replicate (fn.ntmps - (args.map m.eval).size) undef,[.code c],false⟩ (m :: ms) w) : JL p op gs fs St W0 Post m ms w:=by
 have hent : entF p f (args.map m.eval) = ⟨f,args.map m.eval ++ Array.replicate (fn.ntmps - (args.map m.eval).size) undef,[.code c],false⟩:=by simp [entF,hf,hb]
 rw [<- hent] at hJ
 refine JO.one L.fit rfl (λ e => by rw [hr] at e; cases e) (λ T => ((entF p f (args.map m.eval),m :: ms),Tt.tp w T 0)) (λ T => ?_) (λ T K R y hoo => ?_) (λ T => hJ.tape T 0)
 ·show (stepS p m ms).run p _ = _
  simp only [stepS,hr,Bool.false_eq_true,if_false,runS,htd,ho,Option.map_some,Option.getD_some,hwt,if_true]
  refine (Sem.run_bind' p _ _ _).trans ?_
  rw [(exec_call hop (λ g => rfl) hf hn hb (Tt.tp w T 0)).1]
  simp only [Result.andThen,opS,hf,hb,Pure.pure,Sem.run,hent]
 ·obtain ⟨f',xs,xs',c,c',rest,rest',h1,h2,h3,h4,_⟩:=hoo.ex
  simp only [Prod.mk.injEq] at h4
  have h5:=congrArg Fm.fn h4.1
  rw [entF_fn,entF_fn] at h5
  have h6 : op f' = true:=h1
  rw [<- h5,hof] at h6; cases h6
end
theorem ghostu {S : FuncId -> Prop} : ∀ (n : Nat) (v : Value),SizeOf.sizeOf v < n -> ∃ u,Uni u /\ (∀ K R,VR S K R u v) /\ (plainV v -> u = v):=by
 intro n
 induction n with
 | zero => intro v h; omega
 | succ n ih =>
  intro v hv
  have hj : ∀ {v : Value},Hid v -> (∀ k m,v ≠ .int k m) -> (∀ s,v ≠ .string s) -> (∀ b,v ≠ .bool b) -> ∃ u,Uni u /\ (∀ K R,VR S K R u v) /\ (plainV v -> u = v):=λ h h1 h2 h3 =>
   ⟨.nilFunc,.nilFunc,λ K R => .junk h,λ x => by
    rcases x with ⟨k,m,e⟩ | ⟨s,e⟩ | ⟨b,e⟩
    ·exact absurd e (h1 _ _)
    ·exact absurd e (h2 _)
    ·exact absurd e (h3 _)⟩
  have rows : ∀ xs : Array Value,SizeOf.sizeOf xs < n -> ∃ us : Array Value,us.size = xs.size /\ (∀ (i : Nat) (u : Value),us[i]? = some u -> Uni u) /\ ∀ K R,∀ (i : Nat) (u v : Value),us[i]? = some u -> xs[i]? = some v -> VR S K R u v:=λ xs hx => by
   have hex : ∀ x,∃ u,x ∈ xs -> Uni u /\ ∀ K R,VR S K R u x:=λ x => by
    by_cases hm : x ∈ xs
    ·obtain ⟨u,h1,h2,_⟩:=ih x (Nat.lt_trans (Array.sizeOf_lt_of_mem hm) hx)
     exact ⟨u,λ _ => ⟨h1,h2⟩⟩
    ·exact ⟨x,λ h => absurd h hm⟩
   refine ⟨xs.map λ x => (hex x).choose,by simp,λ i u h1 => ?_,λ K R i u v h1 h2 => ?_⟩
   ·rw [Array.getElem?_map] at h1
    cases h2 : xs[i]? with
    | none => rw [h2] at h1; cases h1
    | some v =>
     rw [h2] at h1
     simp only [Option.map_some,Option.some.injEq] at h1
     subst h1
     exact ((hex v).choose_spec (Array.mem_of_getElem? h2)).1
   ·rw [Array.getElem?_map,h2] at h1
    simp only [Option.map_some,Option.some.injEq] at h1
    subst h1
    exact ((hex v).choose_spec (Array.mem_of_getElem? h2)).2 K R
  cases v with
  | bool b => exact ⟨_,.bool b,λ K R => .bool b,λ _ => rfl⟩
  | int k m => exact ⟨_,.int k m,λ K R => .int k m,λ _ => rfl⟩
  | string s => exact ⟨_,.string s,λ K R => .string s,λ _ => rfl⟩
  | nilIface => exact ⟨_,.nilIface,λ K R => .nilIface,λ _ => rfl⟩
  | agg xs =>
   obtain ⟨us,h1,h3,h2⟩:=rows xs (by simp at hv; omega)
   exact ⟨.agg us,.agg h3,λ K R => .agg h1 (h2 K R),λ x => by rcases x with ⟨_,_,e⟩ | ⟨_,e⟩ | ⟨_,e⟩ <;> cases e⟩
  | tuple xs =>
   obtain ⟨us,h1,h3,h2⟩:=rows xs (by simp at hv; omega)
   exact ⟨.tuple us,.tuple h3,λ K R => .tuple h1 (h2 K R),λ x => by rcases x with ⟨_,_,e⟩ | ⟨_,e⟩ | ⟨_,e⟩ <;> cases e⟩
  | _ => exact hj (by exact True.intro) (λ _ _ h => by cases h) (λ _ h => by cases h) (λ _ h => by cases h)
noncomputable def gv (S : FuncId -> Prop) (v : Value) : Value:=(ghostu (S:=S) (SizeOf.sizeOf v + 1) v (Nat.lt_succ_self _)).choose
theorem gv_spec (S : FuncId -> Prop) (v : Value) : Uni (gv S v) /\ (∀ K R,VR S K R (gv S v) v) /\ (plainV v -> gv S v = v):=(ghostu (S:=S) (SizeOf.sizeOf v + 1) v (Nat.lt_succ_self _)).choose_spec
noncomputable def gObj (S : FuncId -> Prop) : Obj -> Obj
 | .cells c T fz => .cells (c.map (gv S)) T (0,max c.size fz.2)
 | _ => waste
noncomputable def gStartX (S : FuncId -> Prop) (X : Nat -> Bool) (W : World) : World:={ W with heap:=W.heap.mapIdx λ i o => if X i = true then gObj S o else waste }
def R0 (X : Nat -> Bool) : Pr:=λ a b => a = b /\ X a = true
def St0 (X : Nat -> Bool) : Nat -> Prop:=λ a => X a = true
section
variable {S : FuncId -> Prop} {X : Nat -> Bool} {W : World}
theorem gStartX_size : (gStartX S X W).heap.size = W.heap.size:=by simp [gStartX]
theorem gStartX_in {b : Nat} {c : Array Value} {T : TypeId} {fz : Nat × Nat} (hb : W.heap[b]? = some (.cells c T fz)) (hx : X b = true) : (gStartX S X W).heap[b]? = some (.cells (c.map (gv S)) T (0,max c.size fz.2)):=by
 simp [gStartX,Array.getElem?_mapIdx,hb,hx,gObj]
theorem gStartX_np : NoPend (gStartX S X W):=by
 intro b c e h
 simp only [gStartX,Array.getElem?_mapIdx,Option.map_eq_some_iff] at h
 obtain ⟨o,_,h⟩:=h
 split at h
 ·cases o <;> simp [gObj,waste] at h
 ·simp [waste] at h
theorem start_rel {G : Gp} (hX : ∀ b,X b = true -> ∃ c T fz,W.heap[b]? = some (.cells c T fz)) (hT : ∀ g,G.tab g = true -> X g = true) (hG : G.n <= W.heap.size) : WRel S P0 (R0 X) G (St0 X) (gStartX S X W) W:=by
 refine ⟨?_,?_,?_,?_,⟨by rw [gStartX_size]; exact hG,hG⟩,?_,λ a b x => x.elim,?_,gStartX_np,λ g hg => ⟨rfl,hT g hg⟩⟩
 ·rintro a b c (⟨rfl,_⟩ | x) (⟨h1,_⟩ | y)
  ·exact h1
  ·exact y.elim
  ·exact x.elim
  ·exact x.elim
 ·rintro a b c (⟨rfl,_⟩ | x) (⟨h1,_⟩ | y)
  ·exact h1.symm
  ·exact y.elim
  ·exact x.elim
  ·exact x.elim
 ·rintro a b (⟨rfl,h⟩ | x)
  ·obtain ⟨c,T,fz,h1⟩:=hX a h
   have:=(Array.getElem?_eq_some_iff.1 h1).1
   exact ⟨by rw [gStartX_size]; exact this,this⟩
  ·exact x.elim
 ·rintro a b ⟨rfl,_⟩
  exact ⟨Iff.rfl,λ _ => rfl⟩
 ·rintro a b ⟨rfl,h⟩
  obtain ⟨c,T,fz,h1⟩:=hX a h
  refine ⟨_,_,gStartX_in h1 h,h1,.cells ⟨by simp,λ i u v h2 h3 => ?_⟩ λ o ho => ?_⟩
  ·rw [Array.getElem?_map,h3] at h2
   simp only [Option.map_some,Option.some.injEq] at h2
   subst h2
   exact (gv_spec S v).2.1 _ _
  ·unfold inFz at ho ⊢
   simp only
   omega
 ·intro a h
  obtain ⟨c,T,fz,h1⟩:=hX a h
  exact ⟨⟨a,rfl,h⟩,_,T,_,gStartX_in h1 h,by rw [Array.size_map]; exact Nat.le_max_left ..⟩
theorem gStartX_cell {b o : Nat} {v : Value} (hX : ∀ b,X b = true -> ∃ c T fz,W.heap[b]? = some (.cells c T fz)) (hx : X b = true) (hv : W.cell? ⟨b,o,none⟩ = some v) (hp : plainV v) : (gStartX S X W).cell? ⟨b,o,none⟩ = some v:=by
 obtain ⟨c,T,fz,h1⟩:=hX b hx
 have h2 : c[o]? = some v:=by
  have : W.cell? ⟨b,o,none⟩ = c[o]?:=by simp [World.cell?,h1]
  rw [<- this]; exact hv
 have h3 : (gStartX S X W).cell? ⟨b,o,none⟩ = (c.map (gv S))[o]?:=by
  simp only [World.cell?]
  rw [gStartX_in h1 hx]; rfl
 rw [h3,Array.getElem?_map,h2]
 simp only [Option.map_some,Option.some.injEq]
 exact (gv_spec S v).2.2 hp
end
theorem past_start {Shun : Loc -> Prop} {B : Nat} : Past Shun B #[]:=
 ⟨past_nil.clean,λ i a h => by simp [touchAt,Trace.act?] at h,past_nil.over,past_nil.hears,λ op h => by simp at h⟩
theorem J.start {p : Program} {op gs gs₁ fs : FuncId -> Bool} {Post : Value -> World -> Prop} (L : Lv p op gs gs₁ fs) {f : FuncId} {fn : Func} {c : Code} (hg : gs f = true) (hof : op f = false) (hf : p.funcs[f]? = some fn) (hb : fn.body = some c) {W : World} {X : Nat -> Bool} {xs args : Array Value}
  (hX : ∀ b,X b = true -> ∃ c T fz,W.heap[b]? = some (.cells c T fz)) (hT : ∀ g,tabOk p g = true -> X g = true) (hG : p.globals.size <= W.heap.size) (hxs : ArR (SF fs) P0 (R0 X) xs args)
  (h : JL p op gs fs (St0 X) W Post ⟨f,xs ++ Array.replicate (fn.ntmps - xs.size) undef,[.code c],false⟩ [] (gStartX (SF fs) X W)) : Ends p Post (solo (G (Frame.enter p f args .normal) []) W) #[]:=by
 obtain ⟨fn',c',g1,g2,g3,g4,g5⟩:=L.fit.fn f hg hof
 have g2' : p.funcs[f]? = some fn':=g2
 rw [hf] at g2'
 obtain rfl:=Option.some.inj g2'
 rw [hb] at g4
 obtain rfl:=Option.some.inj g4
 have hJ : J p Post (λ _ => False) W.heap.size (G (Frame.enter p f args .normal) []) W:=by
  rw [enter_fr hf hb]
  refine h P0 (R0 X) W ⟨f,args ++ Array.replicate (fn.ntmps - args.size) undef,[.code c],false⟩ [] (λ _ => False) (start_rel hX hT hG) ⟨rfl,rfl,rfl,hxs.pad fn.ntmps,λ j hj => ?_,⟨fn,fn,hf,hf,rfl,L.fit.res f hg hof fn hf⟩⟩ .nil ⟨λ _ _ _ _ => id,λ _ _ _ _ _ => id,λ _ _ _ _ => id⟩ ⟨rfl,rfl,rfl,Nat.le_refl _,λ _ _ => rfl,?_⟩
  ·simp only [List.mem_cons,List.not_mem_nil,or_false] at hj
   subst hj; exact g5
  ·rintro a b ⟨rfl,h⟩ _
   exact h
 rw [solo_eq_crowd]
 exact hJ #[_] #[] none (λ _ => 0) rfl ⟨λ i g hi h => by
  have:=(Array.getElem?_eq_some_iff.1 h).1
  simp at this; omega,λ j _ => rfl⟩ past_start
end Go.Mt
namespace Go.Mt
open Go.Conc Go.Tt
section
variable {ops : Array Oper} {vals : Nat -> Value} {t0 : Array Value}
structure Mid (ops : Array Oper) (vals : Nat -> Value) (t0 : Array Value) (listed : Array Bool) (t : Array Value) : Prop where
 size : t.size = t0.size
 got : ∀ (i : Nat) (o : Oper) (d : Tmp),ops[i]? = some o -> o.dst = some d -> d < t0.size -> listed.getD i false = true -> t[d]? = some (vals i)
 old : ∀ s : Nat,(∀ (i : Nat) (o : Oper),ops[i]? = some o -> listed.getD i false = true -> o.dst ≠ some s) -> t[s]? = t0[s]?
theorem Mid.unique {listed : Array Bool} {t t' : Array Value} (h : Mid ops vals t0 listed t) (h' : Mid ops vals t0 listed t') : t = t':=by
 apply Array.ext_getElem?
 intro s
 by_cases hex : ∃ (i : Nat) (o : Oper),ops[i]? = some o /\ listed.getD i false = true /\ o.dst = some s
 ·obtain ⟨i,o,h1,h2,h3⟩:=hex
  by_cases hs : s < t0.size
  ·rw [h.got i o s h1 h3 hs h2,h'.got i o s h1 h3 hs h2]
  ·rw [Array.getElem?_eq_none (by rw [h.size]; omega),Array.getElem?_eq_none (by rw [h'.size]; omega)]
 ·have hn : ∀ (i : Nat) (o : Oper),ops[i]? = some o -> listed.getD i false = true -> o.dst ≠ some s:=λ i o h1 h2 h3 => hex ⟨i,o,h1,h2,h3⟩
  rw [h.old s hn,h'.old s hn]
end
end Go.Mt
namespace Go.Mt
open Go.Conc Go.Tt
end Go.Mt
namespace Go.Proofs.YtkfafknliihabaaDoor
open Go.RowKit Go.Mt Go.Conc Go.Tt Go.Conc.Lib Go.ConcR.Gen
abbrev wgl : WgLink:={ add:=51,done:=53,wait:=55,relMerge:=70,disable:=71,enable:=72,inBubble:=73,associate:=74,fatal:=75,uOr:=76,uAdd:=77,raceRead:=78,uLoad:=79,uStore:=80,disassociate:=81,semrelease:=82,acquire:=84,isAssociated:=85,uCas:=86,raceWrite:=87,semacquire:=88,orU64:=100,addU64:=101,loadU64:=102,storeU64:=103,casU64:=104,tWgP:=118,tUP:=120,tAssoc:=122,tWg:=95,tAU:=92,tU64:=90,tUint:=126,tU32:=93,tPU32:=127,tPAU:=142,tPU64:=144,tNoCopy:=87,tANoCopy:=88,tAlign64:=89 }
theorem wgLib : WgLib Tryd.prog wgl:=
 ⟨Tryd.func51,Tryd.func53,Tryd.func55,Tryd.func70,Tryd.func71,Tryd.func72,Tryd.func73,Tryd.func74,Tryd.func75,Tryd.func76,Tryd.func77,Tryd.func78,Tryd.func79,Tryd.func80,Tryd.func81,Tryd.func82,Tryd.func84,Tryd.func85,Tryd.func86,Tryd.func87,Tryd.func88,Tryd.func100,Tryd.func101,Tryd.func102,Tryd.func103,Tryd.func104,Tryd.underlying118,Tryd.runUnderlying118,Tryd.sizeOf118,Tryd.isAgg118,Tryd.zeroValue118,Tryd.underlying120,Tryd.runUnderlying120,Tryd.sizeOf120,Tryd.isAgg120,Tryd.zeroValue120,Tryd.underlying122,Tryd.runUnderlying122,Tryd.sizeOf122,Tryd.isAgg122,Tryd.zeroValue122,Tryd.underlying95,Tryd.runUnderlying95,Tryd.sizeOf95,Tryd.isAgg95,Tryd.zeroValue95,Tryd.underlying92,Tryd.runUnderlying92,Tryd.sizeOf92,Tryd.isAgg92,Tryd.zeroValue92,Tryd.underlying90,Tryd.runUnderlying90,Tryd.sizeOf90,Tryd.isAgg90,Tryd.zeroValue90,Tryd.underlying126,Tryd.runUnderlying126,Tryd.sizeOf126,Tryd.isAgg126,Tryd.zeroValue126,Tryd.underlying93,Tryd.runUnderlying93,Tryd.sizeOf93,Tryd.isAgg93,Tryd.zeroValue93,Tryd.underlying127,Tryd.runUnderlying127,Tryd.sizeOf127,Tryd.isAgg127,Tryd.zeroValue127,Tryd.underlying142,Tryd.runUnderlying142,Tryd.sizeOf142,Tryd.isAgg142,Tryd.zeroValue142,Tryd.underlying144,Tryd.runUnderlying144,Tryd.sizeOf144,Tryd.isAgg144,Tryd.zeroValue144,Tryd.underlying0,Tryd.runUnderlying0,Tryd.sizeOf0,Tryd.isAgg0,Tryd.zeroValue0,Tryd.underlying3,Tryd.runUnderlying3,Tryd.sizeOf3,Tryd.isAgg3,Tryd.zeroValue3,Tryd.underlying4,Tryd.runUnderlying4,Tryd.sizeOf4,Tryd.isAgg4,Tryd.zeroValue4,Tryd.underlying9,Tryd.runUnderlying9,Tryd.sizeOf9,Tryd.isAgg9,Tryd.zeroValue9,Tryd.underlying20,Tryd.runUnderlying20,Tryd.sizeOf20,Tryd.isAgg20,Tryd.zeroValue20,Tryd.underlying21,Tryd.runUnderlying21,Tryd.sizeOf21,Tryd.isAgg21,Tryd.zeroValue21,(by kernel_rfl),(by kernel_rfl)⟩
instance : Go.ConcR.Payload:=⟨3⟩
end Go.Proofs.YtkfafknliihabaaDoor
namespace Go.Proofs.YtkfafknliihabaaDoor
open Go.Mt Go.Tt
def glL : List Nat:=[8,10,11,12,13,15,16,17,18,19,20,21,22,23,24,25,26,27,28,29,30,31,32,34,35,36,37,38,39,40,41,42,43,44,45,46,47,48,49,50,54,56,57,58,59,60,61,62,63,64,65,66,67,68,69,83,89,90,91,92,93,94,95,96,97,98,99,105,106,107,108,109,110,111,112,113,114,115,116,117,118,119]
def alL : List Nat:=[33,3,4,5,6,7,9,14,8,10,11,12,13,15,16,17,18,19,20,21,22,23,24,25,26,27,28,29,30,31,32,34,35,36,37,38,39,40,41,42,43,44,45,46,47,48,49,50,54,56,57,58,59,60,61,62,63,64,65,66,67,68,69,83,89,90,91,92,93,94,95,96,97,98,99,105,106,107,108,109,110,111,112,113,114,115,116,117,118,119]
def flL : List Nat:=[]
def olL : List Nat:=[33]
abbrev gsF : FuncId -> Bool:=inL glL
abbrev fsF : FuncId -> Bool:=inL flL
theorem zeros_all : zerosOk Tryd.prog = true:=by kernel_rfl
theorem fit_gl : glL.all (fnFit Tryd.prog (inL flL) (inL glL)) = true:=by kernel_rfl
theorem lvF : Lv Tryd.prog (inL olL) (inL alL) gsF fsF:=
 lv_of zeros_all fit_gl (by kernel_rfl) (by kernel_rfl) (by kernel_rfl)
theorem fitF : Fit3 (PS Tryd.prog gsF) fsF:=fit3_of zeros_all fit_gl
end Go.Proofs.YtkfafknliihabaaDoor
namespace Go.Proofs.YtkfafknliihabaaDoor
open Go.RowKit Go.Mt Go.Conc Go.Tt Go.Conc.Lib Go.ConcR.Gen
def serveF (ts : List DeedD) (around : Bool) : Nat -> List Ln -> Nat -> List (Nat × List UInt8)
 | 0,_,_ => []
 | m + 1,ls,st => match turnF ls ts st with
  | none => []
  | some t => (t.i,t.ans) :: serveF ts around m t.ls (if around then t.i + 1 else st)
theorem serveF_none {ts : List DeedD} {around : Bool} {m : Nat} {ls : List Ln} {st : Nat} (h : turnF ls ts st = none) : serveF ts around (m + 1) ls st = []:=by simp [serveF,h]
theorem serveF_some {ts : List DeedD} {around : Bool} {m : Nat} {ls : List Ln} {st : Nat} {t : Told} (h : turnF ls ts st = some t) : serveF ts around (m + 1) ls st = (t.i,t.ans) :: serveF ts around m t.ls (if around then t.i + 1 else st):=by simp [serveF,h]
theorem serveF_len {ts : List DeedD} {around : Bool} : ∀ (m : Nat) (ls : List Ln) (st : Nat),(serveF ts around m ls st).length <= m:=by
 intro m
 induction m with
 | zero => intro ls st; simp [serveF]
 | succ m ih =>
  intro ls st
  unfold serveF
  split
  ·simp
  ·simp; exact ih _ _
def sval (p : Nat × List UInt8) : Value:=.agg #[.int .i64 p.1,.string ⟨p.2.toArray⟩]
def srvVal (sv : List (Nat × List UInt8)) (k : Nat) : Value:=((sv[k]?).map sval).getD undef
theorem srvVal_at {sv : List (Nat × List UInt8)} {k : Nat} {p : Nat × List UInt8} (h : sv[k]? = some p) : srvVal sv k = sval p:=by unfold srvVal; rw [h]; rfl
theorem sval_vr {S : FuncId -> Prop} {K R : Pr} {p : Nat × List UInt8} {v' : Value} (h : VR S K R (sval p) v') : v' = sval p:=by
 unfold sval at h ⊢
 cases h with
 | agg e h =>
  rename_i xs'
  obtain ⟨l⟩:=xs'
  have h0:=h 0
  have h1:=h 1
  simp only [List.size_toArray,List.length_cons,List.length_nil] at e
  match l,e with
  | [a0,a1],_ =>
   simp only [List.getElem?_toArray,List.getElem?_cons_zero,List.getElem?_cons_succ,Option.some.injEq] at h0 h1
   cases h0 _ _ rfl rfl; cases h1 _ _ rfl rfl
   rfl
theorem sval_self (p : Nat × List UInt8) {S : FuncId -> Prop} {K R : Pr} : VR S K R (sval p) (sval p):=by
 unfold sval
 exact .agg' ((ArR.empty.push (.int _ _)).push (.string _))
noncomputable def bodySC : Go.Code:=(Tryd.f52.body).getD .skip
noncomputable def loopSC : Go.Code:=match bodySC with | .seq _ (.seq _ (.seq _ (.seq _ (.seq _ (.seq _ (.block _ (.loop c))))))) => c | _ => .skip
noncomputable def rSC0 : Go.Code:=match bodySC with | .seq a _ => a | _ => .skip
noncomputable def rSC1 : Go.Code:=match bodySC with | .seq _ (.seq a _) => a | _ => .skip
noncomputable def rSC2 : Go.Code:=match bodySC with | .seq _ (.seq _ (.seq a _)) => a | _ => .skip
noncomputable def rSC3 : Go.Code:=match bodySC with | .seq _ (.seq _ (.seq _ (.seq a _))) => a | _ => .skip
noncomputable def rSC4 : Go.Code:=match bodySC with | .seq _ (.seq _ (.seq _ (.seq _ (.seq a _)))) => a | _ => .skip
noncomputable def rSC5 : Go.Code:=match bodySC with | .seq _ (.seq _ (.seq _ (.seq _ (.seq _ (.seq a _))))) => a | _ => .skip
noncomputable def rSC6 : Go.Code:=match loopSC with | .seq a _ => a | _ => .skip
noncomputable def rSC7 : Go.Code:=match loopSC with | .seq _ (.seq _ (.seq (.block _ (.seq a _)) _)) => a | _ => .skip
noncomputable def rSC8 : Go.Code:=match loopSC with | .seq _ (.seq _ (.seq (.block _ (.seq _ (.seq (.seq a _) _))) _)) => a | _ => .skip
noncomputable def rSCa : Go.Code:=match loopSC with | .seq _ (.seq _ (.seq (.block _ (.seq _ (.seq _ (.seq a _)))) _)) => a | _ => .skip
noncomputable def rSC11 : Go.Code:=match loopSC with | .seq _ (.seq _ (.seq (.block _ (.seq _ (.seq _ (.seq _ a)))) _)) => a | _ => .skip
noncomputable def rSC12 : Go.Code:=match loopSC with | .seq _ (.seq _ (.seq _ a)) => a | _ => .skip
theorem loopSC_eq : loopSC = .seq rSC6 (.seq (.cond (.tmp 19) .skip (.exit 0)) (.seq (.block 1 (.seq rSC7 (.seq (.seq rSC8 (.cond (.tmp 28) .ret .skip)) (.seq rSCa rSC11)))) rSC12)):=rfl
theorem bodySC_eq : bodySC = .seq rSC0 (.seq rSC1 (.seq rSC2 (.seq rSC3 (.seq rSC4 (.seq rSC5 (.block 0 (.loop loopSC))))))):=rfl
structure ChD where
 gc : Nat
 gv : Nat
 g2 : Nat
 g3 : Nat
 g4 : Nat
 g5 : Nat
 g6 : Nat
 A1 : Option Addr
 n1 : Nat
 c1 : Nat
 A2 : Option Addr
 n2 : Nat
 c2 : Nat
 A3 : Option Addr
 n3 : Nat
 c3 : Nat
 rooms : List Int
 ds : List DeedD
 ts : List DeedD
 turns : Nat
 around : Bool
structure ChS (D : ChD) (base : Nat) (w : World) : Prop where
 v : w.cell? ⟨D.gv,0,none⟩ = some (.chan (some D.gc))
 r : w.cell? ⟨D.g2,0,none⟩ = some (.slice D.A1 D.n1 D.c1)
 d : w.cell? ⟨D.g3,0,none⟩ = some (.slice D.A2 D.n2 D.c2)
 u : w.cell? ⟨D.g4,0,none⟩ = some (.int .i64 D.turns)
 t : w.cell? ⟨D.g5,0,none⟩ = some (.slice D.A3 D.n3 D.c3)
 a : w.cell? ⟨D.g6,0,none⟩ = some (.bool D.around)
 sr : Slc w 0 base 1 D.A1 D.n1 D.c1 (ints D.rooms)
 sd : Slc w 0 base 3 D.A2 D.n2 D.c2 (deeds D.ds)
 st : Slc w 0 base 3 D.A3 D.n3 D.c3 (deeds D.ts)
 lt : (D.gv < base /\ D.g2 < base /\ D.g3 < base) /\ D.g4 < base /\ D.g5 < base /\ D.g6 < base
 tab : ∀ w',Below base w w' -> Lib.TabIs Tryd.prog w' "internal/strconv.uint64pow10" .u64 Lib.pow10Tab
 le : base <= w.heap.size
theorem cellB {B : Nat} {w w' : World} (h : Below B w w') {b o : Nat} {v : Value} (hb : b < B) (hc : w.cell? ⟨b,o,none⟩ = some v) : w'.cell? ⟨b,o,none⟩ = some v:=(World.cell?_of_block (h.block b hb)).trans hc
theorem slcB {B s : Nat} {w w' : World} (h : Below B w w') {A : Option Addr} {n c : Nat} {xs : List Value} (hs : Slc w 0 B s A n c xs) : Slc w' 0 B s A n c xs:=hs.keep h.size λ b _ q _ => h.block b q
theorem ChS.keep {D : ChD} {base : Nat} {w w' : World} (h : ChS D base w) (hb : Below base w w') : ChS D base w':=
 ⟨cellB hb h.lt.1.1 h.v,cellB hb h.lt.1.2.1 h.r,cellB hb h.lt.1.2.2 h.d,cellB hb h.lt.2.1 h.u,cellB hb h.lt.2.2.1 h.t,cellB hb h.lt.2.2.2 h.a,slcB hb h.sr,slcB hb h.sd,slcB hb h.st,h.lt,λ w2 k => h.tab w2 (hb.trans k),Nat.le_trans h.le hb.size⟩
theorem swOk_tp {w : World} {base : Nat} {S : Sw} {ls : List Ln} (h : SwOk w base S ls) (T : Tape) (e : Nat) : SwOk (Tt.tp w T e) base S ls:=by
 obtain ⟨q1,cps,⟨es,clk,e1,e2⟩,q4⟩:=h.closed
 obtain ⟨t1,tps,⟨es2,clk2,f1,f2⟩,t3,t4⟩:=h.taken
 exact ⟨h.st,h.sb,h.lines,h.len,h.head,h.chans,h.nodup,⟨q1,cps,⟨es,clk,e1,e2⟩,q4⟩,⟨t1,tps,⟨es2,clk2,f1,f2⟩,t3,t4⟩,h.ne⟩
theorem tabIs_heap {w w' : World} (h : w'.heap = w.heap) (ht : TabW w) : TabW w':=by
 unfold TabW Lib.TabIs World.var? at *
 rw [h]; exact ht
theorem ChS.tp {D : ChD} {base : Nat} {w : World} (h : ChS D base w) (T : Tape) (e : Nat) : ChS D base (Tt.tp w T e):=by
 refine ⟨h.v,h.r,h.d,h.u,h.t,h.a,⟨h.sr.len,h.sr.le,h.sr.cap,h.sr.at_⟩,⟨h.sd.len,h.sd.le,h.sd.cap,h.sd.at_⟩,⟨h.st.len,h.st.le,h.st.cap,h.st.at_⟩,h.lt,λ w2 k => ?_,h.le⟩
 have h2 : Below base w { w2 with os:=w.os,tape:=w.tape,output:=w.output }:=⟨rfl,rfl,rfl,k.size,k.block⟩
 exact tabIs_heap (w:={ w2 with os:=w.os,tape:=w.tape,output:=w.output }) rfl (h.tab _ h2)
section
variable {Q : Exit -> Go.Act -> World -> Prop} {u0 u1 u2 u3 u4 u5 u6 u7 u8 u9 u10 u11 u12 u13 u14 u15 u16 u17 u18 u19 u20 u21 u22 u23 u24 u25 u26 u27 u28 u29 u30 u31 u32 u33 u34 u35 : Value} {w : World}
set_option maxHeartbeats 1000000 in
theorem wpSC6 {j n : Nat} (hn : n <= 40) (hj : j <= n) (h : Q .normal ⟨#[u0,u1,u2,u3,u4,u5,u6,u7,u8,u9,u10,u11,u12,u13,u14,u15,u16,.int .i64 n,.int .i64 j,.bool (decide (j < n)),u20,u21,u22,u23,u24,u25,u26,u27,u28,u29,u30,u31,u32,u33,u34,u35],[]⟩ w) :
  Code.wp Tryd.prog rSC6 Q ⟨#[u0,u1,u2,u3,u4,u5,u6,u7,u8,u9,u10,u11,u12,u13,u14,u15,u16,.int .i64 n,.int .i64 j,u19,u20,u21,u22,u23,u24,u25,u26,u27,u28,u29,u30,u31,u32,u33,u34,u35],[]⟩ w:=by
 simp only [rSC6,loopSC,bodySC,Tryd.f52,Option.getD_some]
 go_wp2
 exact h
set_option maxHeartbeats 1000000 in
theorem wpSC12 {j n : Nat} (hn : n <= 40) (hj : j < n) (h : Q .normal ⟨#[u0,u1,u2,u3,u4,u5,u6,u7,u8,u9,u10,u11,u12,u13,u14,u15,u16,u17,.int .i64 (j + 1 : Nat),u19,u20,u21,u22,u23,u24,u25,u26,u27,u28,u29,u30,u31,u32,u33,u34,.int .i64 (j + 1 : Nat)],[]⟩ w) :
  Code.wp Tryd.prog rSC12 Q ⟨#[u0,u1,u2,u3,u4,u5,u6,u7,u8,u9,u10,u11,u12,u13,u14,u15,u16,u17,.int .i64 j,u19,u20,u21,u22,u23,u24,u25,u26,u27,u28,u29,u30,u31,u32,u33,u34,u35],[]⟩ w:=by
 simp only [rSC12,loopSC,bodySC,Tryd.f52,Option.getD_some]
 push_cast at h
 go_wp2
 exact h
set_option maxHeartbeats 1000000 in
theorem wpSC8 {b : Bool} (h : Q .normal ⟨#[u0,u1,u2,u3,u4,u5,u6,u7,u8,u9,.bool b,u11,u12,u13,u14,u15,u16,u17,u18,u19,u20,u21,u22,u23,u24,u25,u26,.bool b,.bool (!b),u29,u30,u31,u32,u33,u34,u35],[]⟩ w) :
  Code.wp Tryd.prog rSC8 Q ⟨#[u0,u1,u2,u3,u4,u5,u6,u7,u8,u9,.bool b,u11,u12,u13,u14,u15,u16,u17,u18,u19,u20,u21,u22,u23,u24,u25,u26,u27,u28,u29,u30,u31,u32,u33,u34,u35],[]⟩ w:=by
 simp only [rSC8,loopSC,bodySC,Tryd.f52,Option.getD_some]
 go_wp2
 exact h
set_option maxHeartbeats 1000000 in
theorem wpSC4 (h : Q .normal ⟨#[u0,u1,u2,u3,u4,u5,u6,u7,.int .i64 0,u9,u10,u11,u12,u13,u14,u15,u16,u17,u18,u19,u20,u21,u22,u23,u24,u25,u26,u27,u28,u29,u30,u31,u32,u33,u34,u35],[]⟩ w) :
  Code.wp Tryd.prog rSC4 Q ⟨#[u0,u1,u2,u3,u4,u5,u6,u7,u8,u9,u10,u11,u12,u13,u14,u15,u16,u17,u18,u19,u20,u21,u22,u23,u24,u25,u26,u27,u28,u29,u30,u31,u32,u33,u34,u35],[]⟩ w:=by
 simp only [rSC4,bodySC,Tryd.f52,Option.getD_some]
 go_wp2
 exact h
set_option maxHeartbeats 1000000 in
theorem wpSC5 {g4 : Nat} {v : Value} (hc : w.cell? ⟨g4,0,none⟩ = some v) (h : Q .normal ⟨#[u0,u1,u2,u3,.pointer (some ⟨g4,0,none⟩),u5,u6,u7,u8,u9,u10,u11,u12,u13,u14,u15,u16,v,.int .i64 0,u19,u20,u21,u22,u23,u24,u25,u26,u27,u28,u29,u30,u31,u32,u33,u34,u35],[]⟩ w) :
  Code.wp Tryd.prog rSC5 Q ⟨#[u0,u1,u2,u3,.pointer (some ⟨g4,0,none⟩),u5,u6,u7,u8,u9,u10,u11,u12,u13,u14,u15,u16,u17,u18,u19,u20,u21,u22,u23,u24,u25,u26,u27,u28,u29,u30,u31,u32,u33,u34,u35],[]⟩ w:=by
 simp only [rSC5,bodySC,Tryd.f52,Option.getD_some]
 go_wp2
 exact h
set_option maxHeartbeats 1000000 in
theorem wpSCa {g6 N i : Nat} {s : ByteArray} {around : Bool} {st : Nat} (hi : i <= 8) (hc : w.cell? ⟨g6,0,none⟩ = some (.bool around)) (hN : w.heap[N]? = some (.cells #[.int .i64 i,.string s] 31))
  (h : ∀ u29 u30 u31 u32,Q .normal ⟨#[u0,u1,u2,u3,u4,u5,.pointer (some ⟨g6,0,none⟩),u7,.int .i64 (if around then i + 1 else st : Nat),.pointer (some ⟨N,0,none⟩),u10,u11,u12,u13,u14,u15,u16,u17,u18,u19,u20,u21,u22,u23,u24,u25,u26,u27,u28,u29,u30,u31,u32,u33,u34,u35],[]⟩ w) :
  Code.wp Tryd.prog rSCa Q ⟨#[u0,u1,u2,u3,u4,u5,.pointer (some ⟨g6,0,none⟩),u7,.int .i64 st,.pointer (some ⟨N,0,none⟩),u10,u11,u12,u13,u14,u15,u16,u17,u18,u19,u20,u21,u22,u23,u24,u25,u26,u27,u28,u29,u30,u31,u32,u33,u34,u35],[]⟩ w:=by
 have c0:=blk_cell hN 0
 simp only [rSCa,loopSC,bodySC,Tryd.f52,Option.getD_some]
 clear hN
 cases around with
 | true =>
  push_cast at h
  go_wp2
  simpa using h _ _ _ _
 | false =>
  go_wp2
  simpa using h _ _ _ _
end
end Go.Proofs.YtkfafknliihabaaDoor
namespace Go.Proofs.YtkfafknliihabaaDoor
open Go.RowKit Go.Mt Go.Conc Go.Tt Go.Conc.Lib Go.ConcR.Gen
section
variable {Q : Exit -> Go.Act -> World -> Prop} {u0 u1 u2 u3 u4 u5 u6 u7 u8 u9 u10 u11 u12 u13 u14 u15 u16 u17 u18 u19 u20 u21 u22 u23 u24 u25 u26 u27 u28 u29 u30 u31 u32 u33 u34 u35 : Value} {w : World} {D : ChD}
set_option maxHeartbeats 1000000 in
theorem wpSC2 (hs : ChS D w.heap.size w) (hd : deedsB D.rooms D.ds = true) (h : ∀ S w' u12 u13,SwOk w' w.heap.size S (openF D.rooms) -> S.cs.length = D.rooms.length -> Below w.heap.size w w' -> Q .normal ⟨#[u0,u1,.pointer (some ⟨D.g2,0,none⟩),u3,u4,u5,u6,.pointer (some ⟨S.sp,0,none⟩),u8,u9,u10,u11,u12,u13,u14,u15,u16,u17,u18,u19,u20,u21,u22,u23,u24,u25,u26,u27,u28,u29,u30,u31,u32,u33,u34,u35],[]⟩ w') :
  Code.wp Tryd.prog rSC2 Q ⟨#[u0,u1,.pointer (some ⟨D.g2,0,none⟩),u3,u4,u5,u6,u7,u8,u9,u10,u11,u12,u13,u14,u15,u16,u17,u18,u19,u20,u21,u22,u23,u24,u25,u26,u27,u28,u29,u30,u31,u32,u33,u34,u35],[]⟩ w:=by
 have c0:=hs.r
 have HN:=Go.Lib.hid (new_from hs.sr hd)
 clear hs hd
 simp only [rSC2,bodySC,Tryd.f52,Option.getD_some]
 go_wp2_with (go_at_call 39; refine HN.out.mono ?_; rintro e w1 ⟨S,rfl,hs1,hl1,hb1⟩)
 exact h S w1 _ _ hs1 hl1 hb1
set_option maxHeartbeats 1000000 in
theorem wpSC3 {base : Nat} {S : Sw} (hs : ChS D base w) (hsw : SwOk w base S (openF D.rooms)) (hl : S.cs.length = D.rooms.length) (hd : deedsB D.rooms D.ds = true) (h : ∀ w' u14 u15 u16,SwOk w' base S (runF D.rooms D.ds).1 -> Below base w w' -> Q .normal ⟨#[u0,u1,u2,.pointer (some ⟨D.g3,0,none⟩),u4,u5,u6,.pointer (some ⟨S.sp,0,none⟩),u8,u9,u10,u11,u12,u13,u14,u15,u16,u17,u18,u19,u20,u21,u22,u23,u24,u25,u26,u27,u28,u29,u30,u31,u32,u33,u34,u35],[]⟩ w') :
  Code.wp Tryd.prog rSC3 Q ⟨#[u0,u1,u2,.pointer (some ⟨D.g3,0,none⟩),u4,u5,u6,.pointer (some ⟨S.sp,0,none⟩),u8,u9,u10,u11,u12,u13,u14,u15,u16,u17,u18,u19,u20,u21,u22,u23,u24,u25,u26,u27,u28,u29,u30,u31,u32,u33,u34,u35],[]⟩ w:=by
 have c0:=hs.d
 have HN:=Go.Lib.hid (doAll_any hsw hs.le hl hd hs.sd (Nat.le_refl _) hs.tab)
 clear hs hsw hd hl
 simp only [rSC3,bodySC,Tryd.f52,Option.getD_some]
 go_wp2_with (go_at_call 40; refine HN.out.mono ?_; rintro e w1 ⟨g,cc,rfl,_,hs1,hb1⟩)
 exact h w1 _ _ _ hs1 hb1
structure TurnW (D : ChD) (base : Nat) (S : Sw) (ls : List Ln) (st : Nat) (w w' : World) (N : Nat) (b : Bool) : Prop where
 below : Below base w w'
 says : match turnF ls D.ts st with
  | none => b = false /\ SwOk w' base S ls
  | some t => b = true /\ SwOk w' base S t.ls /\ t.i <= 7 /\ w'.heap[N]? = some (.cells #[.int .i64 t.i,.string ⟨t.ans.toArray⟩] 31)
theorem turnFrom_i {ls : List Ln} {ts : List DeedD} {st : Nat} (h0 : 1 <= ts.length) (h8 : ts.length <= 8) : ∀ (m k : Nat) (t : Told),turnFrom ls ts st m k = some t -> t.i <= 7:=by
 intro m
 induction m with
 | zero => intro k t h; simp [turnFrom] at h
 | succ m ih =>
  intro k t h
  cases hT : toldF ls ts (turnAt ts st k) with
  | none => rw [turnFrom_none hT] at h; exact ih _ _ h
  | some t' =>
   rw [turnFrom_some hT] at h
   obtain rfl:=Option.some.inj h
   unfold toldF at hT
   obtain ⟨p,_,rfl⟩:=Option.map_eq_some_iff.1 hT
   have:=Nat.mod_lt (st + k) (show 0 < ts.length by omega)
   show turnAt ts st k <= 7
   unfold turnAt; omega
set_option maxHeartbeats 2000000 in
theorem wpSC7 {base : Nat} {S : Sw} {ls : List Ln} {st : Nat} (hs : ChS D base w) (hsw : SwOk w base S ls) (hl : ls.length = D.rooms.length + 1) (ht : tableB D.ts D.rooms.length = true) (hh : HeldOk ls) (hst : st <= 8)
  (h : ∀ w' N b u20 u21 u22 u23 u24 u25 u26,TurnW D base S ls st w w' N b -> Q .normal ⟨#[u0,u1,u2,u3,u4,.pointer (some ⟨D.g5,0,none⟩),u6,.pointer (some ⟨S.sp,0,none⟩),.int .i64 st,.pointer (some ⟨N,0,none⟩),.bool b,u11,u12,u13,u14,u15,u16,u17,u18,u19,u20,u21,u22,u23,u24,u25,u26,u27,u28,u29,u30,u31,u32,u33,u34,u35],[]⟩ w') :
  Code.wp Tryd.prog rSC7 Q ⟨#[u0,u1,u2,u3,u4,.pointer (some ⟨D.g5,0,none⟩),u6,.pointer (some ⟨S.sp,0,none⟩),.int .i64 st,u9,u10,u11,u12,u13,u14,u15,u16,u17,u18,u19,u20,u21,u22,u23,u24,u25,u26,u27,u28,u29,u30,u31,u32,u33,u34,u35],[]⟩ w:=by
 have c0:=hs.t
 have HN:=Go.Lib.hid (turn_any hsw hs.le hl ht hs.st (Nat.le_refl _) hh hst hs.tab)
 obtain ⟨⟨t1,t8⟩,_⟩:=ent_of ht
 have hi:=turnFrom_i (ls:=ls) (st:=st) t1 t8 D.ts.length 0
 have HW:=Go.Lib.hid hs.le
 clear hs hsw hl ht hh
 obtain ⟨o,ho⟩ : ∃ o,o = turnF ls D.ts st:=⟨_,rfl⟩
 have HI:=Go.Lib.hid (And.intro hi ho)
 rw [<- ho] at HN
 clear hi ho
 simp only [rSC7,loopSC,bodySC,Tryd.f52,Option.getD_some]
 cases o with
 | none =>
  go_wp2_with (go_at_call 54; refine HN.out.mono ?_; rintro e w1 ⟨hb1,rfl,hs1⟩)
  refine ⟨below_alB hb1 (Nat.le_trans HW.out hb1.size) _,?_⟩
  rw [<- HI.out.2]
  exact ⟨rfl,hs1.below (below_al (Below.refl _ _) _)⟩
 | some t =>
  go_wp2_with (go_at_call 54; refine HN.out.mono ?_; rintro e w1 ⟨hb1,rfl,hs1⟩)
  refine ⟨below_alB hb1 (Nat.le_trans HW.out hb1.size) _,?_⟩
  rw [<- HI.out.2]
  exact ⟨rfl,hs1.below (below_al (Below.refl _ _) _),HI.out.1 t HI.out.2.symm,heap_alloc_new _ _⟩
end
end Go.Proofs.YtkfafknliihabaaDoor
namespace Go.Proofs.YtkfafknliihabaaDoor
open Go.RowKit Go.Mt Go.Conc Go.Tt Go.Conc.Lib Go.ConcR.Gen
theorem told_ok {ls : List Ln} {ts : List DeedD} {lines : Int} (hts : ∀ d ∈ ts,deedP lines d) (hh : HeldOk ls) {i : Nat} {t : Told} (h : toldF ls ts i = some t) : HeldOk t.ls /\ t.ls.length = ls.length:=by
 unfold toldF at h
 obtain ⟨p,hp,rfl⟩:=Option.map_eq_some_iff.1 h
 refine ⟨?_,by simp⟩
 have hd : 0 <= (ts.getD i d00).b /\ (ts.getD i d00).b <= 1000:=by
  rw [List.getD_eq_getElem?_getD]
  cases e : ts[i]? with
  | none => simp [d00]
  | some d => have:=hts d (List.mem_of_getElem? e); exact ⟨this.2.2.2.1,this.2.2.2.2.1⟩
 have hl : ∀ x ∈ (ls.getD (ts.getD i d00).a.toNat l00).held,0 <= x /\ x <= 1000:=by
  rw [List.getD_eq_getElem?_getD]
  cases e : ls[(ts.getD i d00).a.toNat]? with
  | none => simp [l00]
  | some l => exact hh l (List.mem_of_getElem? e)
 unfold askF tryF at hp
 split at hp
 ·injection hp with hp
  subst hp
  intro l hm
  rcases List.mem_or_eq_of_mem_set hm with hm | rfl
  ·exact hh l hm
  ·split
   ·split
    ·next q qs e =>
     intro x hx
     refine hl x ?_
     rw [e]; exact List.mem_cons_of_mem _ hx
    ·exact hl
   ·intro x hx
    simp only [List.mem_append,List.mem_singleton] at hx
    rcases hx with hx | rfl
    ·exact hl x hx
    ·exact hd
 ·cases hp
theorem turn_ok {ls : List Ln} {ts : List DeedD} {lines : Int} (hts : ∀ d ∈ ts,deedP lines d) (hh : HeldOk ls) {st : Nat} : ∀ (m k : Nat) {t : Told},turnFrom ls ts st m k = some t -> HeldOk t.ls /\ t.ls.length = ls.length:=by
 intro m
 induction m with
 | zero => intro k t h; simp [turnFrom] at h
 | succ m ih =>
  intro k t h
  cases hT : toldF ls ts (turnAt ts st k) with
  | none => rw [turnFrom_none hT] at h; exact ih _ h
  | some t' =>
   rw [turnFrom_some hT] at h
   obtain rfl:=Option.some.inj h
   exact told_ok hts hh hT
theorem heldOk_run {rooms : List Int} {ds : List DeedD} (hd : deedsB rooms ds = true) : HeldOk (runF rooms ds).1:=by
 obtain ⟨_,_,_,hp⟩:=deedsB_of hd
 have hs:=runF_small hp ds.length
 rw [List.take_length] at hs
 exact λ l hl => (hs l hl).2.2
noncomputable def servCx (Wg c n : Nat) (val : Nat -> Value) (Fin : Goroutine -> World -> Prop) (K : Pr) (St : Nat -> Prop) : Cx PpL:=
 { p:=Tryd.prog,gs:=gsF,fs:=fsF,ty:=wgl.tWg,Wg:=Wg,A:=pipe c n val,Fin:=Fin,main:=false,base:=[botF Tryd.prog],ds:=⟨[],.deferred,by simp⟩,K:=K,St:=St,I:=IC wgl.tWg Wg c,pin:=[(0,.pointer (some ⟨Wg,0,none⟩))] }
section
variable {Wg c : Nat} {D : ChD} {sv : List (Nat × List UInt8)}
set_option maxHeartbeats 8000000 in
set_option maxRecDepth 100000 in
theorem serv_loop (C : Cx PpL) (hal : C.alone = none) (hp : C.p = Tryd.prog) (hgs : C.gs = gsF) (hfs : C.fs = fsF) (hA : C.A = pipe c sv.length (srvVal sv)) (hS : C.S = [0]) (hI : IOk C) (hK : C.K D.gc c) (hturns : D.turns <= 40) (ht : tableB D.ts D.rooms.length = true) {base : Nat} {S : Sw}
  (hdone : ∀ tmps todo w,BO C (.sd sv.length) ⟨52,tmps,todo,true⟩ w) :
  ∀ (m j : Nat),j + m = D.turns -> j <= sv.length -> ∀ (w : World) (ls : List Ln) (st : Nat) (u9 u10 u11 u12 u13 u14 u15 u16 u19 u20 u21 u22 u23 u24 u25 u26 u27 u28 u29 u30 u31 u32 u33 u34 u35 : Value),sv.drop j = serveF D.ts D.around m ls st -> ls.length = D.rooms.length + 1 -> HeldOk ls -> st <= 8 -> ChS D base w -> SwOk w base S ls ->
   BO C (.sd j) ⟨52,#[.nilFunc,.pointer (some ⟨D.gv,0,none⟩),.pointer (some ⟨D.g2,0,none⟩),.pointer (some ⟨D.g3,0,none⟩),.pointer (some ⟨D.g4,0,none⟩),.pointer (some ⟨D.g5,0,none⟩),.pointer (some ⟨D.g6,0,none⟩),.pointer (some ⟨S.sp,0,none⟩),.int .i64 st,u9,u10,u11,u12,u13,u14,u15,u16,.int .i64 D.turns,.int .i64 j,u19,u20,u21,u22,u23,u24,u25,u26,u27,u28,u29,u30,u31,u32,u33,u34,u35],[.code loopSC,.inLoop loopSC,.inBlock 0],false⟩ w:=by
 have F : Fit3 C.P C.fs:=by unfold Cx.P; rw [hp,hgs,hfs]; exact fitF
 have fok : FnOk C.p 52:=⟨_,by rw [hp]; exact Tryd.func52,.inl rfl⟩
 obtain ⟨_,hts⟩:=ent_of ht
 have htp : ∀ d ∈ D.ts,deedP D.rooms.length d:=λ d hd => (hts d hd).1
 intro m
 induction m with
 | zero =>
  intro j hj hjn w ls st u9 u10 u11 u12 u13 u14 u15 u16 u19 u20 u21 u22 u23 u24 u25 u26 u27 u28 u29 u30 u31 u32 u33 u34 u35 hsv hl hh hst hw hs
  have hend : j = sv.length:=by
   have : sv.drop j = []:=hsv
   have:=List.drop_eq_nil_iff.1 this
   omega
  have hjt : j = D.turns:=by omega
  rw [show Item.code loopSC = Item.code (.seq rSC6 (.seq (.cond (.tmp 19) .skip (.exit 0)) (.seq (.block 1 (.seq rSC7 (.seq (.seq rSC8 (.cond (.tmp 28) .ret .skip)) (.seq rSCa rSC11)))) rSC12))) from congrArg _ loopSC_eq]
  refine BO.seq hI ?_
  refine BO.piece F hI (by rw [hp,hfs,hgs]; kernel_rfl) fok (by rw [hS]; kernel_rfl) (λ T => ?_)
  rw [hp]
  refine wpSC6 hturns (by omega) ⟨rfl,?_⟩
  refine BO.seq hI ?_
  refine BO.cond hI (t:=false) rfl (by simp [Go.Act.eval,hjt]) ?_
  refine BO.exit hI (k':=[]) rfl (BO.fall hI ?_)
  rw [hend]
  exact hdone _ _ _
 | succ m ih =>
  intro j hj hjn w ls st u9 u10 u11 u12 u13 u14 u15 u16 u19 u20 u21 u22 u23 u24 u25 u26 u27 u28 u29 u30 u31 u32 u33 u34 u35 hsv hl hh hst hw hs
  have hlt : j < D.turns:=by omega
  rw [show Item.code loopSC = Item.code (.seq rSC6 (.seq (.cond (.tmp 19) .skip (.exit 0)) (.seq (.block 1 (.seq rSC7 (.seq (.seq rSC8 (.cond (.tmp 28) .ret .skip)) (.seq rSCa rSC11)))) rSC12))) from congrArg _ loopSC_eq]
  refine BO.seq hI ?_
  refine BO.piece F hI (by rw [hp,hfs,hgs]; kernel_rfl) fok (by rw [hS]; kernel_rfl) (λ T => ?_)
  rw [hp]
  refine wpSC6 hturns (by omega) ⟨rfl,?_⟩
  replace hw:=hw.tp T 0
  replace hs:=swOk_tp hs T 0
  generalize Tt.tp w T 0 = w1 at hw hs ⊢
  refine BO.seq hI ?_
  refine BO.cond hI (t:=true) rfl (by simp [Go.Act.eval,hlt]) ?_
  refine BO.skip hI ?_
  refine BO.seq hI ?_
  refine BO.block hI ?_
  refine BO.seq hI ?_
  refine BO.piece F hI (by rw [hp,hfs,hgs]; kernel_rfl) fok (by rw [hS]; kernel_rfl) (λ T => ?_)
  rw [hp]
  replace hw:=hw.tp T 0
  replace hs:=swOk_tp hs T 0
  generalize Tt.tp w1 T 0 = w2 at hw hs ⊢
  refine wpSC7 hw hs hl ht hh hst λ w3 N b v20 v21 v22 v23 v24 v25 v26 hT => ⟨rfl,?_⟩
  replace hw:=hw.keep hT.below
  clear hs
  have hsays:=hT.says
  clear hT
  refine BO.seq hI ?_
  refine BO.seq hI ?_
  refine BO.piece F hI (by rw [hp,hfs,hgs]; kernel_rfl) fok (by rw [hS]; kernel_rfl) (λ T => ?_)
  rw [hp]
  refine wpSC8 ⟨rfl,?_⟩
  replace hw:=hw.tp T 0
  refine BO.cond hI (t:=!b) rfl rfl ?_
  cases hturn : turnF ls D.ts st with
  | none =>
   rw [hturn] at hsays
   obtain ⟨rfl,_⟩:=hsays
   rw [serveF_none hturn] at hsv
   have hend : j = sv.length:=by
    have:=List.drop_eq_nil_iff.1 hsv
    omega
   simp only [Bool.not_false,if_true]
   refine BO.ret hI ?_
   rw [hend]
   exact hdone _ _ _
  | some t =>
   rw [hturn] at hsays
   obtain ⟨rfl,hs,hi7,hcell⟩:=hsays
   rw [serveF_some hturn] at hsv
   obtain ⟨hh',hl'⟩:=turn_ok htp hh _ _ hturn
   simp only [Bool.not_true,Bool.false_eq_true,if_false]
   refine BO.skip hI ?_
   replace hs:=swOk_tp hs T 0
   have hcell1 : (Tt.tp w3 T 0).heap[N]? = some (.cells #[.int .i64 t.i,.string ⟨t.ans.toArray⟩] 31):=hcell
   clear hcell
   generalize Tt.tp w3 T 0 = w4 at hw hs hcell1 ⊢
   refine BO.seq hI ?_
   refine BO.piece F hI (by rw [hp,hfs,hgs]; kernel_rfl) fok (by rw [hS]; kernel_rfl) (λ T => ?_)
   rw [hp]
   replace hw:=hw.tp T 0
   replace hs:=swOk_tp hs T 0
   have hcell2 : (Tt.tp w4 T 0).heap[N]? = some (.cells #[.int .i64 t.i,.string ⟨t.ans.toArray⟩] 31):=hcell1
   clear hcell1
   generalize Tt.tp w4 T 0 = w5 at hw hs hcell2 ⊢
   refine wpSCa (by omega) hw.a hcell2 λ v29 v30 v31 v32 => ⟨rfl,?_⟩
   have hsj : sv[j]? = some (t.i,t.ans):=by
    have:=congrArg (λ l => l[0]?) hsv
    simpa [List.getElem?_drop] using this
   have hjn2 : j < sv.length:=(List.getElem?_eq_some_iff.1 hsj).1
   generalize hk0 : (Item.inBlock 1 :: Item.code rSC12 :: Item.inLoop loopSC :: [Item.inBlock 0]) = K0
   simp only [rSC11,loopSC,bodySC,Tryd.f52,Option.getD_some]
   refine BO.regs hI [0,1,2] rfl ?_
   refine BO.op F hI (o:=_) rfl rfl (by rw [hp,hfs,hgs]; kernel_rfl) (by intro s hs; rw [hS]; cases hs; decide) (λ T => ⟨.chan (some D.gc),Tt.tp w5 T 0,.inl ?_,?_⟩)
   ·rw [hp]
    exact exec_load1 (a:=⟨D.gv,0,none⟩) rfl rfl (Tryd.isAgg85 _) (hw.tp T 0).v
   replace hw:=hw.tp T 0
   replace hs:=swOk_tp hs T 0
   have hcell3 : (Tt.tp w5 T 0).heap[N]? = some (.cells #[.int .i64 t.i,.string ⟨t.ans.toArray⟩] 31):=hcell2
   clear hcell2
   generalize Tt.tp w5 T 0 = w6 at hw hs hcell3 ⊢
   refine BO.op F hI (o:=_) rfl rfl (by rw [hp,hfs,hgs]; kernel_rfl) (by intro s hs; rw [hS]; cases hs; decide) (λ T => ⟨sval (t.i,t.ans),Tt.tp w6 T 0,.inl ?_,?_⟩)
   ·rw [hp]
    exact exec_loadRow (g:=N) (T:=31) (fr:=(0,0)) rfl rfl hcell3 Tryd.underlying31 rfl (by kernel_rfl)
   replace hw:=hw.tp T 0
   replace hs:=swOk_tp hs T 0
   clear hcell3
   generalize Tt.tp w6 T 0 = w7 at hw hs ⊢
   have hact : C.A.act (.sd j) = .send c (λ v => v = srvVal sv j) (λ _ => []) (λ _ => .sd (j + 1)):=by rw [hA]; show pipeAct c sv.length (srvVal sv) (.sd j) = _; simp only [pipeAct,hjn2,if_true]
   refine BO.send hal hI (o:=_) (g:=D.gc) (l':=.sd (j + 1)) rfl rfl rfl rfl rfl hK rfl (by intro s hs; cases hs) hact (λ R v' hv => ⟨?_,rfl,rfl⟩) ?_
   ·rw [srvVal_at hsj]
    exact sval_vr hv
   refine BO.regEnd hI ?_
   subst hk0
   refine BO.inBlock hI ?_
   refine BO.piece F hI (by rw [hp,hfs,hgs]; kernel_rfl) fok (by rw [hS]; kernel_rfl) (λ T => ?_)
   rw [hp]
   refine wpSC12 hturns hlt ⟨rfl,?_⟩
   refine BO.inLoop hI ?_
   refine ih (j + 1) (by omega) hjn2 _ t.ls _ _ _ _ _ _ _ _ _ _ _ _ _ _ _ _ _ _ _ _ _ _ _ _ _ _ ?_ (hl'.trans hl) hh' ?_ (hw.tp T 0) (swOk_tp hs T 0)
   ·have:=congrArg (λ l => l.drop 1) hsv
    simpa [List.drop_drop] using this
   ·split <;> omega
set_option maxHeartbeats 4000000 in
set_option maxRecDepth 100000 in
theorem serv_child {Fin : Goroutine -> World -> Prop} {K : Pr} {St : Nat -> Prop} (hK : K D.gc c) (hd : deedsB D.rooms D.ds = true) (ht : tableB D.ts D.rooms.length = true) (hturns : D.turns <= 40) (hsv : sv = serveF D.ts D.around D.turns (runF D.rooms D.ds).1 0) {w : World} (hw : ChS D w.heap.size w) :
  BO (servCx Wg c sv.length (srvVal sv) Fin K St) (.sd 0) ⟨52,#[.nilFunc,.pointer (some ⟨D.gv,0,none⟩),.pointer (some ⟨D.g2,0,none⟩),.pointer (some ⟨D.g3,0,none⟩),.pointer (some ⟨D.g4,0,none⟩),.pointer (some ⟨D.g5,0,none⟩),.pointer (some ⟨D.g6,0,none⟩),undef,undef,undef,undef,undef,undef,undef,undef,undef,undef,undef,undef,undef,undef,undef,undef,undef,undef,undef,undef,undef,undef,undef,undef,undef,undef,undef,undef,undef],[.code bodySC],false⟩ w:=by
 let C:=servCx Wg c sv.length (srvVal sv) Fin K St
 have hI : IOk C:=ic_ok rfl
 let d1:=dcall 53 #[.pointer (some ⟨Wg,0,none⟩)]
 let d2:=closeD #[85] 0 #[false] c
 have hI1 : IOk (C.dfr d1):=hI.dfr d1
 have hI2 : IOk ((C.dfr d1).dfr d2):=hI1.dfr d2
 have F : Fit3 C.P C.fs:=fitF
 have fok : FnOk C.p 52:=⟨_,Tryd.func52,.inl rfl⟩
 show BO C _ _ _
 rw [bodySC_eq]
 refine BO.seq hI ?_
 generalize hk0 : (Item.code (rSC1.seq (rSC2.seq (rSC3.seq (rSC4.seq (rSC5.seq (Code.block 0 loopSC.loop)))))) :: ([] : List Item)) = K0
 simp only [rSC0,bodySC,Tryd.f52,Option.getD_some]
 refine BO.regs hI [0] rfl ?_
 refine BO.defer hI (d:=d1) (o:=_) rfl rfl rfl (λ R w W tmps' _ _ hpin W₁ => ?_) ?_
 ·have h0:=hpin (0,.pointer (some ⟨Wg,0,none⟩)) (by show _ ∈ [_]; simp)
  have:=exec_deferF (p:=C.p) (o:=⟨none,.defer { callee:=.value (.func 53),args:=#[.tmp 0],argTypes:=#[95] },0, "l5_choosing.go:88", #[],none⟩) (ρ:=(Go.Act.mk tmps' C.ds.ds).eval) rfl rfl W₁
  simp only [List.map_toArray,List.map_cons,List.map_nil,Go.Act.eval] at this
  simp only at h0
  rw [h0] at this
  exact this
 refine BO.regEnd hI1 ?_
 subst hk0
 refine BO.seq hI1 ?_
 generalize hk0 : (Item.code (rSC2.seq (rSC3.seq (rSC4.seq (rSC5.seq (Code.block 0 loopSC.loop))))) :: ([] : List Item)) = K0
 simp only [rSC1,bodySC,Tryd.f52,Option.getD_some]
 refine BO.regs hI1 [0,1] rfl ?_
 refine BO.op (C:=C.dfr d1) F hI1 (o:=_) rfl rfl (by kernel_rfl) (by intro s hs; cases hs; show (11 : Nat) ∉ ([0] : List Nat); decide) (λ T => ⟨.chan (some D.gc),Tt.tp w T 0,.inl ?_,?_⟩)
 ·exact exec_load1 (a:=⟨D.gv,0,none⟩) rfl rfl (Tryd.isAgg85 _) (hw.tp T 0).v
 replace hw:=hw.tp T 0
 change ChS D (Tt.tp w T 0).heap.size (Tt.tp w T 0) at hw
 generalize Tt.tp w T 0 = w1 at hw ⊢
 refine BO.defer hI1 (d:=d2) (o:=_) rfl rfl rfl (λ R w W tmps' hrel ha _ W₁ => ?_) ?_
 ·have h5:=ha.getD 11 (vr_undef (S:=SF C.fs) (K:=K) (R:=R))
  have h5' : tmps'.getD 11 undef = .chan (some c):=chan_rel (C:=C.dfr d1) hrel hK h5
  have:=exec_deferC (p:=C.p) (o:=⟨none,.defer { callee:=.builtin .close,args:=#[.tmp 11],argTypes:=#[85] },0, "l5_choosing.go:89", #[{ on:=0,ground:=Ground.data }],none⟩) (ρ:=(Go.Act.mk tmps' (C.dfr d1).ds.ds).eval) (c:=c) rfl h5' W₁
  exact this
 refine BO.regEnd hI2 ?_
 subst hk0
 refine BO.seq hI2 ?_
 refine BO.piece (C:=(C.dfr d1).dfr d2) F hI2 (by kernel_rfl) fok (by kernel_rfl) (λ T => ?_)
 replace hw:=hw.tp T 0
 change ChS D (Tt.tp w1 T 0).heap.size (Tt.tp w1 T 0) at hw
 generalize Tt.tp w1 T 0 = w2 at hw ⊢
 refine wpSC2 hw hd λ S w3 v12 v13 hsw hlen hb => ⟨rfl,?_⟩
 generalize w2.heap.size = base at hw hsw hb
 replace hw:=hw.keep hb
 clear hb
 refine BO.seq hI2 ?_
 refine BO.piece (C:=(C.dfr d1).dfr d2) F hI2 (by kernel_rfl) fok (by kernel_rfl) (λ T => ?_)
 replace hw:=hw.tp T 0
 replace hsw:=swOk_tp hsw T 0
 generalize Tt.tp w3 T 0 = w4 at hw hsw ⊢
 refine wpSC3 hw hsw hlen hd λ w5 v14 v15 v16 hs hb => ⟨rfl,?_⟩
 replace hw:=hw.keep hb
 clear hb hsw
 refine BO.seq hI2 ?_
 refine BO.piece (C:=(C.dfr d1).dfr d2) F hI2 (by kernel_rfl) fok (by kernel_rfl) (λ T => ?_)
 refine wpSC4 ⟨rfl,?_⟩
 replace hw:=hw.tp T 0
 replace hs:=swOk_tp hs T 0
 generalize Tt.tp w5 T 0 = w6 at hw hs ⊢
 refine BO.seq hI2 ?_
 refine BO.piece (C:=(C.dfr d1).dfr d2) F hI2 (by kernel_rfl) fok (by kernel_rfl) (λ T => ?_)
 replace hw:=hw.tp T 0
 replace hs:=swOk_tp hs T 0
 generalize Tt.tp w6 T 0 = w7 at hw hs ⊢
 refine wpSC5 hw.u ⟨rfl,?_⟩
 refine BO.block hI2 ?_
 refine BO.loop hI2 ?_
 refine serv_loop (sv:=sv) ((C.dfr d1).dfr d2) rfl rfl rfl rfl rfl rfl hI2 hK hturns ht (λ tmps todo w => ?_) D.turns 0 (by omega) (Nat.zero_le _) _ (runF D.rooms D.ds).1 0 _ _ _ _ _ _ _ _ _ _ _ _ _ _ _ _ _ _ _ _ _ _ _ _ _ (by rw [List.drop_zero]; exact hsv) (runF_len D.rooms D.ds).1 (heldOk_run hd) (by omega) hw hs
 intro R W m' τ hr hm ht hi
 obtain ⟨fn',tmps',todo',ret'⟩:=m'
 obtain rfl:=hm.fn
 obtain rfl:=hm.todo
 obtain rfl:=hm.ret
 rw [fx_ret]
 have hi' : IC wgl.tWg Wg c R τ W:=hi
 exact child_end wgLib (A:=pipe c sv.length (srvVal sv)) (l:=.sd sv.length) (nx:=.dn) (by show pipeAct c sv.length _ (.sd sv.length) = _; simp [pipeAct]) rfl (λ _ => trivial) Tryd.func52 rfl rfl hi'.pass hi'.live tmps' todo #[85] 0 #[false]
end
end Go.Proofs.YtkfafknliihabaaDoor
namespace Go.Mt
open Go.Conc Go.Tt
def frO : Obj -> Obj
 | .cells c T fz => .cells c T (0,max c.size fz.2)
 | o => o
def frX (X : Nat -> Bool) (w : World) : World:={ w with heap:=w.heap.mapIdx λ i o => if X i = true then frO o else o }
def thX (X : Nat -> Bool) (w0 wn : World) : World:={ wn with heap:=wn.heap.mapIdx λ i o => if X i = true then (w0.heap[i]?).getD o else o }
def reX (X : Nat -> Bool) (w : World) : World:={ w with heap:=w.heap.mapIdx λ i o => if X i = true then frO o else waste }
theorem frX_size (X : Nat -> Bool) (w : World) : (frX X w).heap.size = w.heap.size:=by simp [frX]
theorem thX_size (X : Nat -> Bool) (w wn : World) : (thX X w wn).heap.size = wn.heap.size:=by simp [thX]
theorem reX_size (X : Nat -> Bool) (w : World) : (reX X w).heap.size = w.heap.size:=by simp [reX]
section
variable {X : Nat -> Bool} {w wn : World} {a : Nat}
theorem frX_out (h : X a = false) : (frX X w).heap[a]? = w.heap[a]?:=by
 simp [frX,Array.getElem?_mapIdx,h]
theorem frX_in {c : Array Value} {T : TypeId} {fz : Nat × Nat} (h : X a = true) (hc : w.heap[a]? = some (.cells c T fz)) : (frX X w).heap[a]? = some (.cells c T (0,max c.size fz.2)):=by
 simp [frX,Array.getElem?_mapIdx,h,hc,frO]
theorem reX_in {c : Array Value} {T : TypeId} {fz : Nat × Nat} (h : X a = true) (hc : w.heap[a]? = some (.cells c T fz)) : (reX X w).heap[a]? = some (.cells c T (0,max c.size fz.2)):=by
 simp [reX,Array.getElem?_mapIdx,h,hc,frO]
theorem reX_out (h : X a = false) (ha : a < w.heap.size) : (reX X w).heap[a]? = some waste:=by
 simp [reX,Array.getElem?_mapIdx,h,ha]
theorem thX_out (h : X a = false) : (thX X w wn).heap[a]? = wn.heap[a]?:=by
 simp [thX,Array.getElem?_mapIdx,h]
theorem thX_in {o : Obj} (h : X a = true) (ha : a < wn.heap.size) (ho : w.heap[a]? = some o) : (thX X w wn).heap[a]? = some o:=by
 simp [thX,Array.getElem?_mapIdx,h,ho,ha]
end
inductive InX (X KD : Nat -> Prop) : Value -> Prop
 | bool (b : Bool) : InX X KD (.bool b)
 | int (k : IntKind) (n : Int) : InX X KD (.int k n)
 | string (s : ByteArray) : InX X KD (.string s)
 | nilFunc : InX X KD .nilFunc
 | nilIface : InX X KD .nilIface
 | pointer {a : Option Addr} : (∀ x,a = some x -> X x.block) -> InX X KD (.pointer a)
 | slice {a : Option Addr} {n c : Nat} : (∀ x,a = some x -> X x.block) -> InX X KD (.slice a n c)
 | chan {a : Option Nat} : (∀ x,a = some x -> KD x) -> InX X KD (.chan a)
 | agg {xs : Array Value} : (∀ (i : Nat) (v : Value),xs[i]? = some v -> InX X KD v) -> InX X KD (.agg xs)
 | tuple {xs : Array Value} : (∀ (i : Nat) (v : Value),xs[i]? = some v -> InX X KD v) -> InX X KD (.tuple xs)
theorem Uni.inX {X KD : Nat -> Prop} {v : Value} (h : Uni v) : InX X KD v:=by
 induction h with
 | bool b => exact .bool b
 | int k n => exact .int k n
 | string s => exact .string s
 | nilFunc => exact .nilFunc
 | nilIface => exact .nilIface
 | agg _ ih => exact .agg ih
 | tuple _ ih => exact .tuple ih
section
variable {S : FuncId -> Prop} {K R K' R' : Pr} {X KD : Nat -> Prop}
theorem oaR_inX {a a' : Option Addr} (x : OaR R a a') (hR : ∀ p q,R p q -> X p -> R' p q) (h : ∀ y,a = some y -> X y.block) : OaR R' a a':=by
 cases x with
 | none => exact .none
 | some y =>
  cases y with
  | mk y => exact .some (.mk (hR _ _ y (h _ rfl)))
theorem InX.vr {u v : Value} (x : VR S K R u v) (hR : ∀ a b,R a b -> X a -> R' a b) (hK : ∀ a b,R.or K a b -> KD a -> R'.or K' a b) (hu : InX X KD u) : VR S K' R' u v:=by
 induction x with
 | bool b => exact .bool b
 | int k n => exact .int k n
 | string s => exact .string s
 | nilFunc => exact .nilFunc
 | nilIface => exact .nilIface
 | pointer y => cases hu with | pointer h => exact .pointer (oaR_inX y hR h)
 | slice y => cases hu with | slice h => exact .slice (oaR_inX y hR h)
 | map _ => cases hu
 | chan y =>
  cases hu with
  | chan h =>
   refine .chan ?_
   cases y with
   | none => exact .none
   | some y => exact .some (hK _ _ y (h _ rfl))
 | func _ _ _ _ _ _ _ => cases hu
 | iface _ _ => cases hu
 | agg e _ ih => cases hu with | agg h => exact .agg e λ i v v' h1 h2 => ih i v v' h1 h2 (h i v h1)
 | tuple e _ ih => cases hu with | tuple h => exact .tuple e λ i v v' h1 h2 => ih i v v' h1 h2 (h i v h1)
 | junk h => exact .junk h
end
section
variable {S : FuncId -> Prop} {K R K' R' : Pr} {G : Gp} {St St' : Nat -> Prop} {w W wn Wn : World} {X : Nat -> Bool}
structure XOk (R : Pr) (X : Nat -> Bool) (w : World) : Prop where
 dom : ∀ a,X a = true -> ∃ b,R a b
 cells : ∀ a,X a = true -> ∃ c T fz,w.heap[a]? = some (.cells c T fz)
theorem frX_rel (h : WRel S K R G St w W) (hx : XOk R X w) : WRel S K R G (λ a => St a \/ X a = true) (frX X w) W:=by
 have stC : ∀ a,St a -> ∃ c T hi,w.heap[a]? = some (.cells c T (0,hi)) /\ c.size <= hi:=λ a x => (h.st a x).2
 refine ⟨h.inj,h.inj',λ a b x => by rw [frX_size]; exact h.lt a b x,h.low,by rw [frX_size]; exact h.gle,λ a b x => ?_,λ a b x hn => ?_,λ a x => ?_,?_,h.tb⟩
 ·obtain ⟨o,o',h1,h2,h3⟩:=h.cont a b x
  cases e : X a with
  | false => exact ⟨o,o',(frX_out e).trans h1,h2,h3⟩
  | true =>
   obtain ⟨c,T,fz,hc⟩:=hx.cells a e
   rw [hc] at h1
   obtain rfl:=Option.some.inj h1
   cases h3 with
   | cells hcc hf =>
    refine ⟨_,_,frX_in e hc,h2,.cells hcc λ o ho => ?_⟩
    have:=hf o ho
    unfold inFz at this ⊢
    simp only
    omega
 ·cases e : X a with
  | false => exact (frX_out e).trans (h.rest a b x hn)
  | true =>
   obtain ⟨c,hc⟩:=hx.dom a e
   exact absurd hc (hn c)
 ·cases e : X a with
  | false =>
   have x' : St a:=x.resolve_right (by rw [e]; simp)
   obtain ⟨h1,c,T,hi,h2,h3⟩:=h.st a x'
   exact ⟨h1,c,T,hi,(frX_out e).trans h2,h3⟩
  | true =>
   obtain ⟨c,T,fz,hc⟩:=hx.cells a e
   exact ⟨hx.dom a e,c,T,_,frX_in e hc,Nat.le_max_left ..⟩
 ·intro a c e hp
  cases ex : X a with
  | false =>
   rw [frX_out ex] at hp
   exact h.np a c e hp
  | true =>
   obtain ⟨c',T,fz,hc⟩:=hx.cells a ex
   rw [frX_in ex hc] at hp
   cases hp
theorem thX_rel (h : WRel S K R G St w W) (hx : XOk R X w) (hle : R.le R') (hK : K.le K') (hn : WRel S K' R' G St' wn Wn) (hs : ∀ a,St a -> St' a) (hst : ∀ a b,X a = true -> R a b -> Wn.heap[b]? = W.heap[b]?) : WRel S K' R' G St (thX X w wn) Wn:=by
 have hlt : ∀ a b,R' a b -> a < wn.heap.size:=λ a b x => (hn.lt a b (.inl x)).1
 refine ⟨hn.inj,hn.inj',λ a b x => by rw [thX_size]; exact hn.lt a b x,hn.low,by rw [thX_size]; exact hn.gle,λ a b x => ?_,λ a b x hno => ?_,λ a x => ?_,?_,hn.tb⟩
 ·cases e : X a with
  | false =>
   obtain ⟨o,o',h1,h2,h3⟩:=hn.cont a b x
   exact ⟨o,o',(thX_out e).trans h1,h2,h3⟩
  | true =>
   obtain ⟨b0,hb0⟩:=hx.dom a e
   obtain rfl:=hn.inj a b b0 (.inl x) (.inl (hle _ _ hb0))
   obtain ⟨o,o',h1,h2,h3⟩:=h.cont a b hb0
   exact ⟨o,o',thX_in e (hlt a b x) h1,(hst a b e hb0).trans h2,ObR.monoK hK (h3.mono hle)⟩
 ·cases e : X a with
  | false => exact (thX_out e).trans (hn.rest a b x hno)
  | true =>
   obtain ⟨c,hc⟩:=hx.dom a e
   exact absurd (hle _ _ hc) (hno c)
 ·cases e : X a with
  | false =>
   obtain ⟨h1,c,T,hi,h2,h3⟩:=hn.st a (hs a x)
   exact ⟨h1,c,T,hi,(thX_out e).trans h2,h3⟩
  | true =>
   obtain ⟨⟨b,h1⟩,c,T,hi,h2,h3⟩:=h.st a x
   exact ⟨⟨b,hle _ _ h1⟩,c,T,hi,thX_in e (hlt a b (hle _ _ h1)) h2,h3⟩
 ·intro a c e hp
  cases ex : X a with
  | false =>
   rw [thX_out ex] at hp
   exact hn.np a c e hp
  | true =>
   obtain ⟨b,hb⟩:=hx.dom a ex
   obtain ⟨c',T,fz,hc⟩:=hx.cells a ex
   rw [thX_in ex (hlt a b (hle _ _ hb)) hc] at hp
   cases hp
def rX (R : Pr) (X : Nat -> Bool) : Pr:=λ a b => R a b /\ X a = true
def kX (K : Pr) (KD : Nat -> Prop) : Pr:=λ a b => K a b /\ KD a
theorem reX_rel (h : WRel S K R G St w W) (hx : XOk R X w) (hT : ∀ g,G.tab g = true -> X g = true) {KD : Nat -> Prop} (hcl : ∀ a c T fz,X a = true -> w.heap[a]? = some (.cells c T fz) -> ∀ v ∈ c,InX (λ a => X a = true) KD v) (hKD : ∀ a b,R a b -> KD a -> X a = true) :
  WRel S (kX K KD) (rX R X) G (λ a => X a = true) (reX X w) W:=by
 have up : ∀ a b,(rX R X).or (kX K KD) a b -> R.or K a b:=λ a b x => x.elim (λ y => .inl y.1) λ y => .inr y.1
 refine ⟨λ a b c x y => h.inj a b c (up _ _ x) (up _ _ y),λ a b c x y => h.inj' a b c (up _ _ x) (up _ _ y),λ a b x => by rw [reX_size]; exact h.lt a b (up _ _ x),λ a b x => h.low a b x.1,by rw [reX_size]; exact h.gle,λ a b x => ?_,λ a b x hno => ?_,λ a x => ?_,?_,λ g hg => ⟨h.tb g hg,hT g hg⟩⟩
 ·obtain ⟨o,o',h1,h2,h3⟩:=h.cont a b x.1
  obtain ⟨c,T,fz,hc⟩:=hx.cells a x.2
  rw [hc] at h1
  obtain rfl:=Option.some.inj h1
  cases h3 with
  | cells hcc hf =>
   refine ⟨_,_,reX_in x.2 hc,h2,.cells ⟨hcc.1,λ i v v' h1 h2 => ?_⟩ λ o ho => ?_⟩
   ·refine InX.vr (hcc.2 i v v' h1 h2) (λ p q y z => ⟨y,z⟩) (λ p q y z => ?_) (hcl a c T fz x.2 hc v (Array.mem_of_getElem? h1))
    rcases y with y | y
    ·exact .inl ⟨y,hKD p q y z⟩
    ·exact .inr ⟨y,z⟩
   ·have:=hf o ho
    unfold inFz at this ⊢
    simp only
    omega
 ·cases e : X a with
  | false => exact reX_out e (h.lt a b (.inr x.1)).1
  | true =>
   obtain ⟨c,hc⟩:=hx.dom a e
   exact absurd ⟨hc,e⟩ (hno c)
 ·obtain ⟨c,T,fz,hc⟩:=hx.cells a x
  obtain ⟨b,hb⟩:=hx.dom a x
  exact ⟨⟨b,hb,x⟩,c,T,_,reX_in x hc,Nat.le_max_left ..⟩
 ·intro a c e hp
  cases ex : X a with
  | false =>
   by_cases ha : a < w.heap.size
   ·rw [reX_out ex ha] at hp
    unfold waste at hp; cases hp
   ·have:=(Array.getElem?_eq_some_iff.1 hp).1
    rw [reX_size] at this; omega
  | true =>
   obtain ⟨c',T,fz,hc⟩:=hx.cells a ex
   rw [reX_in ex hc] at hp
   cases hp
end
end Go.Mt
namespace Go.Mt
open Go.Conc Go.Tt
open Go.ConcR (KK wgBlock WgAt stA smA rd wr DC0)
section
variable {p : Program} {Post : Value -> World -> Prop} {Shun : Loc -> Prop}
def BJ (p : Program) (Post : Value -> World -> Prop) (Shun : Loc -> Prop) (τ : Terr) (g : Goroutine) (W : World) : Prop:=
 (∀ b,τ.own b \/ τ.still b -> b < W.heap.size /\ ∀ l,onB l b -> ¬ Shun l) -> (∀ l b,onB l b -> W.heap.size <= b -> ¬ Shun l) -> J p Post Shun W.heap.size g W
theorem evL_of_evQ {O Z : Nat -> Prop} {B : Nat} {e : Event} (h : EvQ O Z e) (hO : ∀ b,O b \/ Z b -> b < B /\ ∀ l,onB l b -> ¬ Shun l) : EvL Shun B e:=by
 rcases h with rfl | ⟨b,h1,h2⟩
 ·exact ⟨λ x hx => by simp [MemAct.ofEvent,MemAct.touch?] at hx,by simp,by simp,trivial⟩
 ·obtain ⟨hb,hs⟩:=hO b (h2.imp id And.left)
  obtain ⟨loc,wr,sy⟩:=e
  cases loc with
  | cell x =>
   simp only [evBlock,Option.some.injEq] at h1
   refine ⟨λ y hy hsh => ?_,by simp,by simp,?_⟩
   ·simp only [MemAct.ofEvent,MemAct.touch?,Option.some.injEq] at hy
    subst hy
    exact absurd hsh (hs _ h1)
   ·show x.block < B
    rw [h1]; exact hb
  | obj r =>
   simp only [evBlock,Option.some.injEq] at h1
   have hr : r < B:=by rw [h1]; exact hb
   refine ⟨λ y hy hsh => ?_,by simp,by simp,?_⟩
   ·have hyl : y.loc = .obj r:=by
     cases wr <;> cases sy <;> simp only [MemAct.ofEvent,MemAct.touch?,Option.some.injEq] at hy <;> first | (subst hy; rfl) | (cases hy; done)
    exact absurd (hyl ▸ hsh) (hs (.obj r) h1)
   ·cases wr <;> cases sy <;> exact hr
  | _ => simp [evBlock] at h1
theorem suf_atd {ty : TypeId} {Wg : Nat} {τ : Terr} {w : World} (d : Nat) : Suf ty Wg τ w (w.at d):=⟨rfl,rfl,rfl,Nat.le_refl _,λ _ _ => rfl,λ x => x⟩
theorem bj_ok {ty : TypeId} {Wg : Nat} (τ : Terr) (g : Goroutine) (w : World) (hrun : g.status = .running) (h : OwnQ p ty Wg true (BJ p Post Shun) τ g w) : BJ p Post Shun τ g w:=by
 intro h1 h2
 have grow : ∀ (d : Nat) {w' : World},w.heap.size <= w'.heap.size -> (∀ b,(τ.grow (w.at d) w').own b \/ τ.still b -> b < w'.heap.size /\ ∀ l,onB l b -> ¬ Shun l) /\ ∀ l b,onB l b -> w'.heap.size <= b -> ¬ Shun l:=λ d w' hs => by
  refine ⟨λ b hb => ?_,λ l b hl hb => h2 l b hl (Nat.le_trans hs hb)⟩
  rcases hb with (hb | ⟨hb,hb'⟩) | hb
  ·exact ⟨Nat.lt_of_lt_of_le (h1 b (.inl hb)).1 hs,(h1 b (.inl hb)).2⟩
  ·exact ⟨hb',λ l hl => h2 l b hl hb⟩
  ·exact ⟨Nat.lt_of_lt_of_le (h1 b (.inr hb)).1 hs,(h1 b (.inr hb)).2⟩
 refine J.ownC hrun λ d => ?_
 rcases h (w.at d) (suf_atd d) with ⟨g',w',es,a1,a2,a3,a4,a5⟩ | ⟨cs,sh,v,wm,w',es,a1,a2,a3,a4,a5,a6,a7⟩
 ·obtain ⟨k1,k2⟩:=grow d a3.size
  exact .inl ⟨g',w',es,w'.heap.size,a1,λ e he => evL_of_evQ (a4 e he) k1,a3.size,a5 k1 k2⟩
 ·obtain ⟨k1,k2⟩:=grow d a5.size
  exact .inr ⟨cs,sh,v,wm,w',es,w'.heap.size,a1,a2,λ e he => evL_of_evQ (a6 e he) k1,a5.size,a4,a7 k1 k2⟩
structure IA (W0 : World) (St : Nat -> Prop) (Shun : Loc -> Prop) (R0 : Pr) (R : Pr) (τ : Terr) (W : World) : Prop where
 kp : Kp W0 R St W
 sh : Sh W0.heap.size Shun R W
 still : ∀ b,b < W0.heap.size -> τ.still b
 le : R0.le R
noncomputable def aloneCx (p : Program) (gs fs : FuncId -> Bool) (Post : Value -> World -> Prop) (Shun : Loc -> Prop) (W0 : World) (St : Nat -> Prop) (K R0 : Pr) (base : List Frame) : Cx Unit:=
 { p:=p,gs:=gs,fs:=fs,ty:=0,Wg:=0,A:=⟨λ _ => .wait,λ _ _ => True,λ _ => false,λ _ => True,λ _ _ => True⟩,Fin:=λ _ _ => True,main:=true,base:=base,ds:=.nil,K:=K,St:=St,I:=IA W0 St Shun R0,pin:=[],alone:=some (BJ p Post Shun),aok:=λ B h τ g w hr ho => by
     cases h; exact bj_ok τ g w hr ho }
variable {gs fs : FuncId -> Bool} {W0 : World} {St : Nat -> Prop} {K R0 : Pr} {base : List Frame}
theorem alone_ok : IOk (aloneCx p gs fs Post Shun W0 St K R0 base):=by
 refine ⟨λ R τ W W₁ h s => ?_,λ R τ W R1 W1 h ht hs => ?_⟩
 ·have h : IA W0 St Shun R0 R τ W:=h
  exact ⟨⟨s.os.trans h.kp.os,s.tape.trans h.kp.tape,s.output.trans h.kp.output,Nat.le_trans h.kp.size s.size,λ b hb => (s.keep b (.inr (h.still b hb))).trans (h.kp.block b hb),h.kp.old⟩,⟨h.sh.old,h.sh.rel,λ l b hl hb => h.sh.new l b hl (Nat.le_trans s.size hb)⟩,h.still,h.le⟩
 ·have h : IA W0 St Shun R0 R τ W:=h
  have hs : Rs St R W R1 W1:=hs
  refine ⟨⟨hs.os.trans h.kp.os,hs.tape.trans h.kp.tape,hs.output.trans h.kp.output,Nat.le_trans h.kp.size hs.size,λ b hb => ?_,λ a b x hb => ?_⟩,⟨h.sh.old,λ a b x l hl => ?_,λ l b hl hb => h.sh.new l b hl (Nat.le_trans hs.size hb)⟩,h.still,h.le.trans hs.le⟩
  ·rw [hs.keep b (Nat.lt_of_lt_of_le hb h.kp.size) (λ a x => h.kp.old a b x hb)]
   exact h.kp.block b hb
  ·rcases hs.new a b x with y | ⟨y,_⟩
   ·exact h.kp.old a b y hb
   ·have:=h.kp.size; omega
  ·rcases hs.new a b x with y | ⟨y,_⟩
   ·exact h.sh.rel a b y l hl
   ·exact h.sh.new l b hl y
def tauA (R : Pr) (St : Nat -> Prop) (W0 : World) : Terr:=⟨λ b => ∃ a,R a b /\ ¬ St a,λ b => b < W0.heap.size \/ ∃ a,R a b /\ St a,λ _ => False⟩
theorem tauA_terra {R : Pr} : Terra (tauA R St W0) R St:=λ a b x => ⟨λ h => .inr ⟨a,x,h⟩,λ h => ⟨a,x,h⟩⟩
theorem BO.aloneIn {R : Pr} {m m' : Fm} {w W : World} (h : BO (aloneCx p gs fs Post Shun W0 St K R base) () m w) (hw : WRel (SF fs) K R (prGp p) St w W) (hm : FmW (aloneCx p gs fs Post Shun W0 St K R base) R m m') (hsh : Sh W0.heap.size Shun R W) (hk : Kp W0 R St W) :
  J p Post Shun W.heap.size (G m'.fr base) W:=by
 have:=h R W m' (tauA R St W0) hw hm tauA_terra ⟨hk,hsh,λ b hb => .inl hb,.refl R⟩
 rw [Cx.B_some rfl] at this
 have e : fx [] (aloneCx p gs fs Post Shun W0 St K R base).ds m' = m'.fr:=fx_nil _
 rw [e] at this
 refine this (λ b hb => ?_) hsh.new
 rcases hb with ⟨a,x,_⟩ | hb | ⟨a,x,_⟩
 ·exact ⟨(hw.lt a b (.inl x)).2,hsh.rel a b x⟩
 ·exact ⟨Nat.lt_of_lt_of_le hb hk.size,λ l hl => hsh.old l b hl hb⟩
 ·exact ⟨(hw.lt a b (.inl x)).2,hsh.rel a b x⟩
theorem BO.aloneOut {op gs₀ : FuncId -> Bool} {m m' : Fm} {ms ms' : List Fm} (hm : FmR (PL p op gs₀) fs K R0 m m') (hms : MsR (PL p op gs₀) fs K R0 ms ms') (hbase : base = m'.fr :: ms'.map Fm.fr) {ops : Array Oper} {i : Nat} {rest : List Nat} {k : List Item} (hr : m.ret = false) (htd : m.todo = .inRegion ops (i :: rest) :: k)
  {f : FuncId} {tmps : Array Value} {todo : List Item} {w : World} {v : Value} {fnf : Func} (hf : p.funcs[f]? = some fnf) (hpl : plainRes fnf.results.toList) (hv : (resS fnf.results.toList tmps).run p w = .ok v w) (hJ : JL p op gs₀ fs St W0 Post (m.fin ops i rest k v) ms w) :
  BO (aloneCx p gs fs Post Shun W0 St K R0 base) () ⟨f,tmps,todo,true⟩ w:=by
 intro R W x' τ hw hx ht hi
 have hi : IA W0 St Shun R0 R τ W:=hi
 obtain ⟨f',tmps',todo',ret'⟩:=x'
 obtain rfl:=hx.fn
 obtain rfl:=hx.todo
 obtain rfl:=hx.ret
 have hr' : m'.ret = false:=hm.ret.symm.trans hr
 have htd' : m'.todo = .inRegion ops (i :: rest) :: k:=hm.todo.symm.trans htd
 refine Cx.ownQ rfl λ W₁ s => ?_
 have hC:=alone_ok (p:=p) (gs:=gs) (fs:=fs) (Post:=Post) (Shun:=Shun) (W0:=W0) (St:=St) (K:=K) (R0:=R0) (base:=base)
 have hw₁ : WRel (SF fs) K R (prGp p) St w W₁:=Cx.Rel.suf (C:=aloneCx p gs fs Post Shun W0 St K R0 base) hw ht s
 have hi₁ : IA W0 St Shun R0 R τ W₁:=hC.suf _ _ _ _ hi s
 let T : Tape:=λ n q => W₁.tape (W₁.drawn + n) q
 have hw₂ : WRel (SF fs) K R (prGp p) St (Tt.tp w T 0) W₁:=⟨hw₁.inj,hw₁.inj',hw₁.lt,hw₁.low,hw₁.gle,hw₁.cont,hw₁.rest,hw₁.st,hw₁.np,hw₁.tb⟩
 have htp : Tp (Tt.tp w T 0) W₁:=λ n q => by show W₁.tape (W₁.drawn + (0 + n)) q = _; rw [Nat.zero_add]
 have hrun:=(tf_resS _ _ w v w hv).2 T 0
 obtain ⟨R1,v',W1,ev,e1,g3,e3,e4,e5⟩:=Sim.run (P:=PS p gs) rfl _ (sim_resS hx.tmps fnf.results.toList) hw₂ htp hrun
 obtain ⟨hWW,_⟩:=tf_resS _ _ W₁ v' W1 e1
 subst hWW
 have hret : (retS p ⟨f,tmps',todo,true⟩ [m']).run p W1 = .ok (m'.fin ops i rest k v',[]) W1:=(retS_mk htd' hf e1).1
 obtain ⟨_,_,_,e⟩:=retS_fx (main:=true) rfl hr' hret [] .nil (ms'.map Fm.fr)
 rw [fx_nil,fx_nil] at e
 have hfx : fx [] (aloneCx p gs fs Post Shun W0 St K R0 base).ds ⟨f,tmps',todo,true⟩ = (⟨f,tmps',todo,true⟩ : Fm).fr:=fx_nil _
 rw [hfx]
 have hsub : ∀ e ∈ seen p f ((retS p ⟨f,tmps',todo,true⟩ [m']).events p W1 #[]),EvOk R1 St e:=λ e he => by
  rw [(retS_mk htd' hf e1).2,e4] at he
  exact e5 e (by simpa using mem_seen he)
 have hnew : ∀ a b,R1 a b -> R a b \/ (W1.heap.size <= b /\ b < W1.heap.size):=λ a b x => by
  rcases e3.new a b x with y | ⟨_,y⟩
  ·exact .inl y
  ·exact .inr ⟨y,(e3.rel.ltR a b x).2⟩
 have ht1 : Terra (τ.grow W1 W1) R1 St:=λ a b x => by
  rcases e3.new a b x with y | ⟨y1,y2⟩
  ·exact ⟨(ht a b y).1,λ z => .inl ((ht a b y).2 z)⟩
  ·have:=(e3.rel.ltR a b x).2; omega
 have hi1 : IA W0 St Shun R0 R1 (τ.grow W1 W1) W1:=hC.step R τ W1 R1 W1 hi₁ ht ⟨e3.le,rfl,rfl,rfl,Nat.le_refl _,hnew,λ _ _ _ => rfl⟩
 refine .inl ⟨G (m'.fin ops i rest k v').fr (ms'.map Fm.fr),W1,_,?_,rfl,Gua.id _ _,λ e he => evQ_of_evOk (hsub e he) ht1,?_⟩
 ·show stepG p true (G (Fm.fr _) base) W1 = _
  rw [hbase]
  exact e
 ·rw [Cx.B_some rfl]
  intro _ _
  have hrel1 : WRel (SF fs) K R1 (prGp p) St w W1:=⟨e3.rel.inj,e3.rel.inj',e3.rel.lt,e3.rel.low,e3.rel.gle,e3.rel.cont,e3.rel.rest,e3.rel.st,e3.rel.np,e3.rel.tb⟩
  have hle : R0.le R1:=hi₁.le.trans e3.le
  exact hJ K R1 W1 _ ms' Shun hrel1 ((hm.mono hle).fin htd g3) (hms.mono hle) hi1.sh hi1.kp
end
end Go.Mt
namespace Go.Mt
open Go.Conc Go.Tt Go.RowKit Go.Conc.Lib Go.ConcR.Gen
open Go.ConcR (KK wgBlock WgAt stA smA rd wr mk Payload DC0)
variable [Payload] {Lk : WgLink}
section
variable {p : Program}
set_option maxRecDepth 100000 in
theorem wait_entW (H : WgLib p Lk) (Wg : Nat) : Frame.enter p Lk.wait #[.pointer (some ⟨Wg,0,none⟩)] .normal = (Conc.base Lk.wait).at ⟨#[.pointer (some ⟨Wg,0,none⟩),undef,undef,undef,undef,undef,undef,undef,undef,undef,undef,undef,undef,undef,undef,undef,undef,undef,undef,undef,undef,undef,undef,undef,undef,undef,undef,undef,undef,undef,undef,undef,undef,undef,undef,undef,undef,undef,undef,undef,undef,undef,undef,undef,undef,undef,undef,undef,undef,undef,undef,undef,undef,undef,undef,undef,undef,undef,undef,undef,undef,undef,undef,undef,undef,undef,undef,undef,undef,undef,undef,undef,undef,undef,undef,undef,undef,undef,undef,undef,undef,undef,undef,undef],[]⟩ [.code (body_wait Lk)]:=by
 have h:=Conc.enter_at (P:=p) (f:=Lk.wait) (fn:=waitFn Lk) (c:=body_wait Lk) #[.pointer (some ⟨Wg,0,none⟩)] H.f_wait rfl
 rw [h]
 have e : (waitFn Lk).ntmps = 84:=rfl
 rw [e]
 walk_nrm
set_option maxRecDepth 100000 in
theorem add_entW (H : WgLib p Lk) (Wg : Nat) : Frame.enter p Lk.add #[.pointer (some ⟨Wg,0,none⟩),.int .i64 1] .normal = (Conc.base Lk.add).at ⟨#[.pointer (some ⟨Wg,0,none⟩),.int .i64 1,undef,undef,undef,undef,undef,undef,undef,undef,undef,undef,undef,undef,undef,undef,undef,undef,undef,undef,undef,undef,undef,undef,undef,undef,undef,undef,undef,undef,undef,undef,undef,undef,undef,undef,undef,undef,undef,undef,undef,undef,undef,undef,undef,undef,undef,undef,undef,undef,undef,undef,undef,undef,undef,undef,undef,undef,undef,undef,undef,undef,undef,undef,undef,undef,undef,undef,undef,undef,undef,undef,undef,undef,undef,undef,undef,undef,undef,undef,undef,undef,undef,undef,undef,undef,undef,undef,undef,undef,undef,undef,undef,undef,undef,undef,undef,undef,undef,undef,undef,undef,undef,undef,undef,undef,undef,undef,undef,undef,undef,undef,undef,undef,undef,undef,undef],[]⟩ [.code (body_add Lk)]:=by
 have h:=Conc.enter_at (P:=p) (f:=Lk.add) (fn:=addFn Lk) (c:=body_add Lk) #[.pointer (some ⟨Wg,0,none⟩),.int .i64 1] H.f_add rfl
 rw [h]
 have e : (addFn Lk).ntmps = 117:=rfl
 rw [e]
 walk_nrm
end
section
variable {L : Type} {C : Cx L} {l nx : L} {I0 : Pr -> Terr -> World -> Prop}
theorem keep_rel (hC : C.ty = Lk.tWg) (hX : IX Lk.tWg C.Wg I0) {R : Pr} {τ : Terr} {w : World} (ht : Terra τ R C.St) : KeepF Lk.tWg C.Wg τ (λ W => C.Rel R w W /\ I0 R τ W):=by
 refine ⟨λ W W' s hF => ⟨wrel_suf hF.1 ht (λ a b x => (hF.1.lt a b (.inr x)).2) s,hX.suf _ _ _ _ hF.2 s⟩,λ W a v ha hF => ⟨?_,hX.cell _ _ _ _ _ hF.2 ha⟩⟩
 exact WRel.real hF.1 (λ x b hx => setCell_ne W a v (by rw [ha]; exact hX.rel _ _ _ hF.2 x b hx)) (by rw [setCell_size]; exact Nat.le_refl _)
set_option maxRecDepth 100000 in
theorem BO.add (H : WgLib C.p Lk) (ha : C.alone = none) (hmain : C.main = true) (hty : C.ty = Lk.tWg) (hI : IOk C) (hI0 : C.I = withLive Lk.tWg C.Wg I0) (hX : IX Lk.tWg C.Wg I0) {fn : FuncId} {tmps : Array Value} {ops : Array Oper} {i : Nat} {rest : List Nat} {k : List Item} {w : World} {o : Oper} {s : Tmp} {ats : Array TypeId}
  (ho : ops[i]? = some o) (hwt : Region.wanted o (yielded ops tmps) = true) (hop : o.op = .call ⟨.value (.func Lk.add),#[.tmp s,.const (.int .i64 1)],ats⟩) (hpin : (s,.pointer (some ⟨C.Wg,0,none⟩)) ∈ C.pin) (hnd : ∀ s,o.dst = some s -> s ∉ C.S) (hact : C.A.act l = .add nx)
  (h : BO C nx ⟨fn,(Go.Act.put ⟨tmps,[]⟩ o.dst (.tuple #[])).tmps,.inRegion ops rest :: k,false⟩ w) : BO C l ⟨fn,tmps,.inRegion ops (i :: rest) :: k,false⟩ w:=by
 intro R W m' τ hw hm ht hi
 obtain ⟨fn',tmps',todo',ret'⟩:=m'
 obtain rfl:=hm.fn
 obtain rfl:=hm.todo
 obtain rfl:=hm.ret
 have hwt':=wanted_rel (C:=C) hm.tmps hwt
 have h5 : tmps'.getD s undef = .pointer (some ⟨C.Wg,0,none⟩):=hm.pins _ hpin
 have hb : (C.ds.base fn).kind ≠ .early:=C.ds.ok
 rw [fx_at,Cx.B_none ha,hmain,hty]
 rw [hI0] at hi
 have kf:=keep_rel (C:=C) (w:=w) hty hX ht
 have hput : ∀ v,Go.Act.put ⟨tmps',C.ds.ds⟩ o.dst v = ⟨(Go.Act.put ⟨tmps',[]⟩ o.dst v).tmps,C.ds.ds⟩:=λ v => by cases o.dst <;> rfl
 refine beh_silent rfl rfl (g':=G ((Conc.base Lk.add).at ⟨#[.pointer (some ⟨C.Wg,0,none⟩),.int .i64 1,undef,undef,undef,undef,undef,undef,undef,undef,undef,undef,undef,undef,undef,undef,undef,undef,undef,undef,undef,undef,undef,undef,undef,undef,undef,undef,undef,undef,undef,undef,undef,undef,undef,undef,undef,undef,undef,undef,undef,undef,undef,undef,undef,undef,undef,undef,undef,undef,undef,undef,undef,undef,undef,undef,undef,undef,undef,undef,undef,undef,undef,undef,undef,undef,undef,undef,undef,undef,undef,undef,undef,undef,undef,undef,undef,undef,undef,undef,undef,undef,undef,undef,undef,undef,undef,undef,undef,undef,undef,undef,undef,undef,undef,undef,undef,undef,undef,undef,undef,undef,undef,undef,undef,undef,undef,undef,undef,undef,undef,undef,undef,undef,undef,undef,undef],[]⟩ [.code (body_add Lk)]) ((C.ds.base fn).at ⟨tmps',C.ds.ds⟩ (.inRegion ops (i :: rest) :: k) :: C.base)) (λ W₂ s2 => ?_) λ W₂ s2 => ?_
 ·obtain ⟨x1,x2⟩:=exec_call (p:=C.p) (o:=o) hop (ρ:=(Go.Act.mk tmps' C.ds.ds).eval) (λ g => rfl) H.f_add rfl rfl W₂
  have hargs : (#[.tmp s,.const (.int .i64 1)] : Array Operand).map (Go.Act.mk tmps' C.ds.ds).eval = #[.pointer (some ⟨C.Wg,0,none⟩),.int .i64 1]:=by simp only [List.map_toArray,List.map_cons,List.map_nil,Go.Act.eval]; rw [h5]
  rw [hargs] at x1
  have hstp:=stepG_enter (main:=true) (b:=C.ds.base fn) (a:=⟨tmps',C.ds.ds⟩) (rest:=rest) (cs:=C.base) (k:=k) ho hwt' hb x1
  rw [hstp]
  unfold listed
  rw [x2,Conc.seen_none,add_entW H]
 ·refine addW (A:=C.A) (b₀:=C.ds.base fn) (a₀:=⟨tmps',C.ds.ds⟩) (ops₀:=ops) (i₀:=i) (rest₀:=rest) (k₀:=k) (cs:=C.base) (Fin:=C.Fin) (l:=l) (nx:=nx) (Wg:=C.Wg) H hact kf (λ W5 h5 hl5 => ?_) W₂ ⟨kf.suf _ _ s2 ⟨hw,hi.1⟩,s2.live hi.2⟩
  have hB:=h R W5 ⟨fn,(Go.Act.put ⟨tmps',[]⟩ o.dst (.tuple #[])).tmps,.inRegion ops rest :: k,false⟩ τ h5.1 ⟨rfl,rfl,rfl,put_rel (C:=C) hm.tmps (.tuple rfl λ i v v' h => by simp at h),put_pins (C:=C) hm.pins hnd⟩ ht (by rw [hI0]; exact ⟨h5.2,hl5⟩)
  rw [fx_at,Cx.B_none ha,hmain,hty] at hB
  rw [ho]
  simp only [Option.bind_some]
  rw [hput]
  exact hB
set_option maxRecDepth 100000 in
theorem BO.wait (H : WgLib C.p Lk) (ha : C.alone = none) (hmain : C.main = true) (hty : C.ty = Lk.tWg) (hI : IOk C) (hI0 : C.I = withLive Lk.tWg C.Wg I0) (hX : IX Lk.tWg C.Wg I0) (hFin : ∀ (n : Nat) g w,Goes C.p true AtRel DC0 C.Fin n g w -> C.Fin g w)
  {fn : FuncId} {tmps : Array Value} {ops : Array Oper} {i : Nat} {rest : List Nat} {k : List Item} {w : World} {o : Oper} {s : Tmp} {ats : Array TypeId}
  (ho : ops[i]? = some o) (hwt : Region.wanted o (yielded ops tmps) = true) (hop : o.op = .call ⟨.value (.func Lk.wait),#[.tmp s],ats⟩) (hpin : (s,.pointer (some ⟨C.Wg,0,none⟩)) ∈ C.pin) (hact : C.A.act l = .wait)
  (h : ∀ (R : Pr) (W : World) (tmps' : Array Value) (τ : Terr) (d : Nat),C.Rel R w W -> ArR (SF C.fs) C.K R tmps tmps' -> Terra τ R C.St -> I0 R τ W -> Deps C.A W -> C.Fin (G ((C.ds.base fn).at ⟨(Go.Act.put ⟨tmps',[]⟩ o.dst (.tuple #[])).tmps,C.ds.ds⟩ (.inRegion ops rest :: k)) C.base) (W.at d)) : BO C l ⟨fn,tmps,.inRegion ops (i :: rest) :: k,false⟩ w:=by
 intro R W m' τ hw hm ht hi
 obtain ⟨fn',tmps',todo',ret'⟩:=m'
 obtain rfl:=hm.fn
 obtain rfl:=hm.todo
 obtain rfl:=hm.ret
 have hwt':=wanted_rel (C:=C) hm.tmps hwt
 have h5 : tmps'.getD s undef = .pointer (some ⟨C.Wg,0,none⟩):=hm.pins _ hpin
 have hb : (C.ds.base fn).kind ≠ .early:=C.ds.ok
 rw [fx_at,Cx.B_none ha,hmain,hty]
 rw [hI0] at hi
 have kf:=keep_rel (C:=C) (w:=w) hty hX ht
 have hput : ∀ v,Go.Act.put ⟨tmps',C.ds.ds⟩ o.dst v = ⟨(Go.Act.put ⟨tmps',[]⟩ o.dst v).tmps,C.ds.ds⟩:=λ v => by cases o.dst <;> rfl
 refine beh_silent rfl rfl (g':=G ((Conc.base Lk.wait).at ⟨#[.pointer (some ⟨C.Wg,0,none⟩),undef,undef,undef,undef,undef,undef,undef,undef,undef,undef,undef,undef,undef,undef,undef,undef,undef,undef,undef,undef,undef,undef,undef,undef,undef,undef,undef,undef,undef,undef,undef,undef,undef,undef,undef,undef,undef,undef,undef,undef,undef,undef,undef,undef,undef,undef,undef,undef,undef,undef,undef,undef,undef,undef,undef,undef,undef,undef,undef,undef,undef,undef,undef,undef,undef,undef,undef,undef,undef,undef,undef,undef,undef,undef,undef,undef,undef,undef,undef,undef,undef,undef,undef],[]⟩ [.code (body_wait Lk)]) ((C.ds.base fn).at ⟨tmps',C.ds.ds⟩ (.inRegion ops (i :: rest) :: k) :: C.base)) (λ W₂ s2 => ?_) λ W₂ s2 => ?_
 ·obtain ⟨x1,x2⟩:=exec_call (p:=C.p) (o:=o) hop (ρ:=(Go.Act.mk tmps' C.ds.ds).eval) (λ g => rfl) H.f_wait rfl rfl W₂
  have hargs : (#[.tmp s] : Array Operand).map (Go.Act.mk tmps' C.ds.ds).eval = #[.pointer (some ⟨C.Wg,0,none⟩)]:=by simp only [List.map_toArray,List.map_cons,List.map_nil,Go.Act.eval]; rw [h5]
  rw [hargs] at x1
  have hstp:=stepG_enter (main:=true) (b:=C.ds.base fn) (a:=⟨tmps',C.ds.ds⟩) (rest:=rest) (cs:=C.base) (k:=k) ho hwt' hb x1
  rw [hstp]
  unfold listed
  rw [x2,Conc.seen_none,wait_entW H]
 ·refine waitW (A:=C.A) (b₀:=C.ds.base fn) (a₀:=⟨tmps',C.ds.ds⟩) (ops₀:=ops) (i₀:=i) (rest₀:=rest) (k₀:=k) (cs:=C.base) (Fin:=C.Fin) (l:=l) (Wg:=C.Wg) H hact kf hFin (λ Wn hFn _ hD d => ?_) W₂ ⟨kf.suf _ _ s2 ⟨hw,hi.1⟩,s2.live hi.2⟩
  have:=h R Wn tmps' τ d hFn.1 hm.tmps ht hFn.2 hD
  rw [ho]
  simp only [Option.bind_some]
  rw [hput]
  exact this
end
section
variable {L : Type} {C : Cx L} {l nx lc : L}
structure Parts (τ τm τc : Terr) (pub : List Nat) (W : World) : Prop where
 own : ∀ b,τm.own b \/ τc.own b -> τ.own b
 still : ∀ b,τm.still b \/ τc.still b -> τ.still b \/ τ.own b
 pass : ∀ b,τm.pass b \/ τc.pass b -> τ.pass b \/ τ.own b \/ τ.still b
 apart : ∀ b,τm.own b -> ¬ τc.own b /\ ¬ τc.still b /\ ¬ τc.pass b
 apart' : ∀ b,τc.own b -> ¬ τm.still b /\ ¬ τm.pass b
 pub : ∀ a ∈ pub,τ.own a /\ freshChan W a /\ ¬ τm.own a /\ ¬ τm.still a /\ ¬ τc.own a /\ ¬ τc.still a
theorem BO.go (ha : C.alone = none) (hI : IOk C) {fn : FuncId} {tmps : Array Value} {ops : Array Oper} {i j : Nat} {rest : List Nat} {k : List Item} {w : World} {o1 o2 : Oper} {s : Tmp} {f : FuncId} {caps : Array Operand} {pub : List Nat}
  (ho1 : ops[i]? = some o1) (ho2 : ops[j]? = some o2) (hg1 : o1.guard = none) (hg2 : o2.guard = none) (hop1 : o1.op = .makeFunc (.func f) #[] caps) (hd1 : o1.dst = some s) (hop2 : o2.op = .go ⟨.value (.tmp s),#[],#[]⟩) (hd2 : o2.dst = none) (hact : C.A.act l = .spawn pub lc nx) (hs : s < tmps.size)
  (h : ∀ (R : Pr) (W : World) (tmps' : Array Value) (τ : Terr),C.Rel R w W -> ArR (SF C.fs) C.K R tmps tmps' -> (∀ x ∈ C.pin,tmps'.getD x.1 undef = x.2) -> Terra τ R C.St -> C.I R τ W -> ∃ τm τc,Parts τ τm τc pub W /\
   BehE C.p C.ty C.Wg C.A C.Fin C.main (.usr nx) 0 τm (G ((C.ds.base fn).at ⟨tmps'.setIfInBounds s (.func (.func f) #[] (caps.map (Go.Act.mk tmps' C.ds.ds).eval)),C.ds.ds⟩ (.inRegion ops rest :: k)) C.base) W /\
   BehE C.p C.ty C.Wg C.A C.Fin false (.usr lc) 0 τc (born C.p { target:=.fn (.func f) (caps.map (Go.Act.mk tmps' C.ds.ds).eval),args:=#[] }) W) : BO C l ⟨fn,tmps,.inRegion ops (i :: j :: rest) :: k,false⟩ w:=by
 intro R W m' τ hw hm ht hi
 obtain ⟨fn',tmps',todo',ret'⟩:=m'
 obtain rfl:=hm.fn
 obtain rfl:=hm.todo
 obtain rfl:=hm.ret
 have hb : (C.ds.base fn).kind ≠ .early:=C.ds.ok
 rw [fx_at,Cx.B_none ha]
 have hsz : s < tmps'.size:=Nat.lt_of_lt_of_eq hs hm.tmps.1
 obtain ⟨dst1,op1,type1,pos1,after1,guard1⟩:=o1
 obtain ⟨dst2,op2,type2,pos2,after2,guard2⟩:=o2
 simp only at hg1 hg2 hop1 hop2 hd1 hd2
 subst hg1 hg2 hop1 hop2 hd1 hd2
 have wn : ∀ {o : Oper} {t : Array Value},o.guard = none -> Region.wanted o (yielded ops t) = true:=λ h => by unfold Region.wanted; rw [h]
 refine beh_silent rfl rfl (g':=G ((C.ds.base fn).at ⟨tmps'.setIfInBounds s (.func (.func f) #[] (caps.map (Go.Act.mk tmps' C.ds.ds).eval)),C.ds.ds⟩ (.inRegion ops (j :: rest) :: k)) C.base) (λ W₁ s1 => ?_) λ W₁ s1 => ?_
 ·have x1 : (execOp (Go.Act.mk tmps' C.ds.ds).eval ⟨some s,.makeFunc (.func f) #[] caps,type1,pos1,after1,none⟩).run C.p W₁ = .ok (.value (.func (.func f) #[] (caps.map (Go.Act.mk tmps' C.ds.ds).eval))) W₁:=by simp [execOp,go_sem,Instr.makeFunc,pure,Sem.run]
  have x2 : (execOp (Go.Act.mk tmps' C.ds.ds).eval ⟨some s,.makeFunc (.func f) #[] caps,type1,pos1,after1,none⟩).events C.p W₁ #[] = #[]:=by simp [execOp,go_sem,Instr.makeFunc]
  rw [stepG_value ho1 (wn rfl) hb x1]
  unfold listed
  rw [x2,Conc.seen_none]
  rfl
 ·refine BehE.usr rfl ?_
  unfold AtUsr
  rw [hact]
  refine ⟨rfl,λ W₂ s2 => ?_⟩
  have s3:=s1.trans s2
  obtain ⟨τm,τc,hp,hm2,hc2⟩:=h R W₂ tmps' τ (hw.suf ht s3) hm.tmps hm.pins ht (hI.suf _ _ _ _ hi s3)
  refine ⟨_,_,τm,τc,?_,rfl,rfl,hp.own,hp.still,hp.pass,hp.apart,hp.apart',hp.pub,hm2,hc2⟩
  have x0 : (Go.Act.mk (tmps'.setIfInBounds s (.func (.func f) #[] (caps.map (Go.Act.mk tmps' C.ds.ds).eval))) C.ds.ds).eval (.tmp s) = .func (.func f) #[] (caps.map (Go.Act.mk tmps' C.ds.ds).eval):=by
   simp [Go.Act.eval,Array.getD_eq_getD_getElem?,hsz]
  have x1 : (execOp (Go.Act.mk (tmps'.setIfInBounds s (.func (.func f) #[] (caps.map (Go.Act.mk tmps' C.ds.ds).eval))) C.ds.ds).eval ⟨none,.go ⟨.value (.tmp s),#[],#[]⟩,type2,pos2,after2,none⟩).run C.p W₂ = .ok (.spawn { target:=.fn (.func f) (caps.map (Go.Act.mk tmps' C.ds.ds).eval),args:=#[] }) W₂:=by
   simp only [execOp,resolve,x0]
   simp [Deferred.ofValue,go_sem]
  have x2 : (execOp (Go.Act.mk (tmps'.setIfInBounds s (.func (.func f) #[] (caps.map (Go.Act.mk tmps' C.ds.ds).eval))) C.ds.ds).eval ⟨none,.go ⟨.value (.tmp s),#[],#[]⟩,type2,pos2,after2,none⟩).events C.p W₂ #[] = #[]:=by
   simp only [execOp,resolve,x0]
   simp [Deferred.ofValue,go_sem]
  rw [stepG_spawn ho2 (wn rfl) hb x1 rfl]
  unfold listed
  rw [x2,Conc.seen_none]
  rfl
end
end Go.Mt
namespace Go.Mt
open Go.Conc Go.Tt
open Go.ConcR (KK wgBlock WgAt stA smA rd wr mk Payload DC0)
inductive LsR (S : FuncId -> Prop) (K R : Pr) : List Value -> List Value -> Prop
 | nil : LsR S K R [] []
 | cons {v v' : Value} {l l' : List Value} : VR S K R v v' -> LsR S K R l l' -> LsR S K R (v :: l) (v' :: l')
theorem LsR.len {S : FuncId -> Prop} {K R : Pr} {l l' : List Value} (h : LsR S K R l l') : l.length = l'.length:=by
 induction h with
 | nil => rfl
 | cons _ _ ih => simp [ih]
theorem LsR.get {S : FuncId -> Prop} {K R : Pr} {l l' : List Value} (h : LsR S K R l l') : ∀ (i : Nat) (v v' : Value),l[i]? = some v -> l'[i]? = some v' -> VR S K R v v':=by
 induction h with
 | nil => intro i v v' h1; simp at h1
 | cons a _ ih =>
  intro i v v' h1 h2
  cases i with
  | zero =>
   simp only [List.getElem?_cons_zero,Option.some.injEq] at h1 h2
   subst h1 h2; exact a
  | succ i => exact ih i v v' (by simpa using h1) (by simpa using h2)
theorem arR_list {S : FuncId -> Prop} {K R : Pr} {l l' : List Value} (h : LsR S K R l l') : ArR S K R l.toArray l'.toArray:=
 ⟨by simpa using h.len,λ i v v' h1 h2 => h.get i v v' (by simpa using h1) (by simpa using h2)⟩
structure IM2 (W0 : World) (St : Nat -> Prop) (Shun : Loc -> Prop) (Wg : Nat) (SS : Nat -> Prop) (R0 : Pr) (Fz : Nat -> Prop) (Wf : World) (chs : List Nat) (R : Pr) (τ : Terr) (W : World) : Prop where
 x : IMX W0 St Shun Wg SS R0 Fz Wf R τ W
 dis : ∀ b,τ.own b -> ¬ τ.still b
 slt : ∀ b,τ.still b -> b < W.heap.size
 ch : ∀ c ∈ chs,τ.own c /\ freshChan W c /\ ∀ a,¬ R a c
section
variable {W0 : World} {St : Nat -> Prop} {Shun : Loc -> Prop} {Wg : Nat} {SS : Nat -> Prop} {R0 : Pr} {Fz : Nat -> Prop} {Wf : World} {chs : List Nat}
theorem freshChan.lt {W : World} {c : Nat} (h : freshChan W c) : c < W.heap.size:=(Array.getElem?_eq_some_iff.1 h).1
theorem im2_ix {ty : TypeId} (hSS : ∀ b,b < W0.heap.size -> SS b) (hF : ∀ b,Fz b -> SS b) (hlow : W0.heap.size <= Wg) : IX ty Wg (IM2 W0 St Shun Wg SS R0 Fz Wf chs):=by
 have hx:=imx_ix (ty:=ty) (St:=St) (Shun:=Shun) (Wg:=Wg) (R0:=R0) (Wf:=Wf) hSS hF hlow
 refine ⟨λ R τ W W₁ h s => ⟨hx.suf _ _ _ _ h.x s,h.dis,λ b hb => Nat.lt_of_lt_of_le (h.slt b hb) s.size,λ c hc => ?_⟩,λ R τ W a v h ha => ⟨hx.cell _ _ _ _ _ h.x ha,h.dis,λ b hb => by rw [setCell_size]; exact h.slt b hb,λ c hc => ?_⟩,λ R τ W d h => ⟨hx.at_ _ _ _ d h.x,h.dis,h.slt,h.ch⟩,λ R τ W h => h.x.im.rel⟩
 ·obtain ⟨h1,h2,h3⟩:=h.ch c hc
  exact ⟨h1,(s.keep c (.inl h1)).trans h2,h3⟩
 ·obtain ⟨h1,h2,h3⟩:=h.ch c hc
  exact ⟨h1,(setCell_ne W a v (by rw [ha]; exact h.x.im.own c h1)).trans h2,h3⟩
variable {L : Type} {C : Cx L}
theorem im2_ok (hC : C.I = withLive C.ty C.Wg (IM2 W0 St Shun C.Wg SS R0 Fz Wf chs)) (hst : ∀ a,St a -> C.St a) (hSS : ∀ b,b < W0.heap.size -> SS b) (hF : ∀ b,Fz b -> SS b) (hlow : W0.heap.size <= C.Wg) : IOk C:=by
 have h0 : IOk { C with I:=withLive C.ty C.Wg (IMX W0 St Shun C.Wg SS R0 Fz Wf) }:=imx_ok (C:={ C with I:=withLive C.ty C.Wg (IMX W0 St Shun C.Wg SS R0 Fz Wf) }) rfl hst hSS hF hlow
 have hx:=im2_ix (ty:=C.ty) (St:=St) (Shun:=Shun) (R0:=R0) (Wf:=Wf) (chs:=chs) hSS hF hlow
 refine ⟨λ R τ W W₁ h s => ?_,λ R τ W R1 W1 h ht hs => ?_⟩ <;> rw [hC] at *
 ·exact ⟨hx.suf _ _ _ _ h.1 s,s.live h.2⟩
 ·obtain ⟨k1,k2⟩:=h0.step R τ W R1 W1 ⟨h.1.x,h.2⟩ ht hs
  refine ⟨⟨k1,λ b hb hs' => ?_,λ b hb => Nat.lt_of_lt_of_le (h.1.slt b hb) hs.size,λ c hc => ?_⟩,k2⟩
  ·rcases hb with hb | ⟨hb,_⟩
   ·exact h.1.dis b hb hs'
   ·have:=h.1.slt b hs'; omega
  ·obtain ⟨h1,h2,h3⟩:=h.1.ch c hc
   refine ⟨.inl h1,(hs.keep c h2.lt λ a x => absurd x (h3 a)).trans h2,λ a x => ?_⟩
   rcases hs.new a c x with y | ⟨y,_⟩
   ·exact h3 a y
   ·have:=h2.lt; omega
def tauGm (τ : Terr) (R : Pr) (X : Nat -> Bool) (chs : List Nat) : Terr:=⟨λ b => τ.own b /\ b ∉ chs /\ ¬ ∃ a,R a b /\ X a = true,λ b => τ.still b \/ ∃ a,R a b /\ X a = true,λ _ => False⟩
def tauGc (τ : Terr) (R : Pr) (X : Nat -> Bool) (chs : List Nat) : Terr:=⟨λ _ => False,λ b => τ.still b \/ ∃ a,R a b /\ X a = true,λ b => b ∈ chs⟩
variable {S : FuncId -> Prop} {K R : Pr} {G : Gp} {StC : Nat -> Prop} {w W : World} {τ : Terr} {X : Nat -> Bool}
theorem parts_go (hT : Terra τ R StC) (hI : IM2 W0 St Shun Wg SS R0 Fz Wf chs R τ W) : Parts τ (tauGm τ R X chs) (tauGc τ R X chs) chs W:=by
 have hx : ∀ b,(∃ a,R a b /\ X a = true) -> τ.still b \/ τ.own b:=λ b ⟨a,h,_⟩ => by
  by_cases hs : StC a
  ·exact .inl ((hT a b h).1 hs)
  ·exact .inr ((hT a b h).2 hs)
 refine ⟨λ b hb => ?_,λ b hb => ?_,λ b hb => ?_,λ b hb => ⟨id,?_,λ hc => hb.2.1 hc⟩,λ b hb => hb.elim,λ a ha => ?_⟩
 ·rcases hb with hb | hb
  ·exact hb.1
  ·exact hb.elim
 ·rcases hb with (hb | hb) | hb | hb
  ·exact .inl hb
  ·exact hx b hb
  ·exact .inl hb
  ·exact hx b hb
 ·rcases hb with hb | hb
  ·exact hb.elim
  ·exact .inr (.inl (hI.ch b hb).1)
 ·rintro (hs | hs)
  ·exact hI.dis b hb.1 hs
  ·exact hb.2.2 hs
 ·obtain ⟨h1,h2,h3⟩:=hI.ch a ha
  refine ⟨h1,h2,λ h => h.2.1 ha,?_,id,?_⟩
  ·rintro (hs | ⟨g,hg,_⟩)
   ·exact hI.dis a h1 hs
   ·exact h3 g hg
  ·rintro (hs | ⟨g,hg,_⟩)
   ·exact hI.dis a h1 hs
   ·exact h3 g hg
theorem terra_gm (hw : WRel S K R G StC w W) (hT : Terra τ R StC) (hch : ∀ c ∈ chs,∀ a,¬ R a c) : Terra (tauGm τ R X chs) R (λ a => StC a \/ X a = true):=λ a b x => by
 refine ⟨λ h => ?_,λ h => ?_⟩
 ·rcases h with h | h
  ·exact .inl ((hT a b x).1 h)
  ·exact .inr ⟨a,x,h⟩
 ·refine ⟨(hT a b x).2 λ hs => h (.inl hs),λ hc => hch b hc a x,?_⟩
  rintro ⟨a',x',h'⟩
  obtain rfl:=hw.inj' a a' b (.inl x) (.inl x')
  exact h (.inr h')
theorem terra_gc : Terra (tauGc τ R X chs) (rX R X) (λ a => X a = true):=λ a b x => ⟨λ h => .inr ⟨a,x.1,x.2⟩,λ h => absurd x.2 h⟩
def fzG (R : Pr) (St : Nat -> Prop) (X : Nat -> Bool) (b : Nat) : Prop:=∃ a,R a b /\ (St a \/ X a = true)
theorem im2_gm (hw : WRel S K R G StC w W) (hT : Terra τ R StC) (hst : ∀ a,St a -> StC a) (hI : IM2 W0 St Shun Wg SS R0 Fz Wf chs R τ W) : IM2 W0 St Shun Wg (tauGm τ R X chs).still R (fzG R StC X) W [] R (tauGm τ R X chs) W:=by
 refine ⟨⟨⟨hI.x.im.kp,hI.x.im.sh,rfl,hI.x.im.wg,λ b hb => hI.x.im.own b hb.1,hI.x.im.rel⟩,.refl R,λ b hb => ?_⟩,λ b hb hs => ?_,λ b hb => ?_,λ c hc => by cases hc⟩
 ·obtain ⟨a,x,h⟩:=hb
  refine ⟨(hw.lt a b (.inl x)).2,rfl,λ ho => ?_,hI.x.im.rel a b x⟩
  rcases h with h | h
  ·exact hI.dis b ho.1 ((hT a b x).1 h)
  ·exact ho.2.2 ⟨a,x,h⟩
 ·rcases hs with hs | hs
  ·exact hI.dis b hb.1 hs
  ·exact hb.2.2 hs
 ·rcases hb with hb | ⟨a,x,_⟩
  ·exact hI.slt b hb
  ·exact (hw.lt a b (.inl x)).2
theorem fzG_still (hT : Terra τ R StC) {b : Nat} (h : fzG R StC X b) : (tauGm τ R X chs).still b:=by
 obtain ⟨a,x,h⟩:=h
 rcases h with h | h
 ·exact .inl ((hT a b x).1 h)
 ·exact .inr ⟨a,x,h⟩
def tauP (R : Pr) (St : Nat -> Prop) (W0 : World) (chs : List Nat) : Terr:=⟨λ b => (∃ a,R a b /\ ¬ St a) \/ b ∈ chs,λ b => b < W0.heap.size \/ ∃ a,R a b /\ St a,λ _ => False⟩
theorem terra_p : Terra (tauP R St W0 chs) R St:=λ a b x => ⟨λ h => .inr ⟨a,x,h⟩,λ h => .inl ⟨a,x,h⟩⟩
theorem im2_p (hw : WRel S K R G St w W) (hk : Kp W0 R St W) (hsh : Sh W0.heap.size Shun R W) (hwg : Wg < W.heap.size) (hown : ∀ c ∈ chs,c ≠ Wg /\ W0.heap.size <= c /\ freshChan W c /\ ∀ a,¬ R a c) (hrel : ∀ a b,R a b -> b ≠ Wg) :
  IM2 W0 St Shun Wg (tauP R St W0 chs).still R (λ _ => False) W chs R (tauP R St W0 chs) W:=by
 refine ⟨⟨⟨hk,hsh,rfl,hwg,λ b hb => ?_,hrel⟩,.refl R,λ b hb => hb.elim⟩,λ b hb hs => ?_,λ b hb => ?_,λ c hc => ⟨.inr hc,(hown c hc).2.2.1,(hown c hc).2.2.2⟩⟩
 ·rcases hb with ⟨a,x,_⟩ | hb
  ·exact hrel a b x
  ·exact (hown b hb).1
 ·rcases hb with ⟨a,x,hn⟩ | hb
  ·rcases hs with hs | ⟨a',x',h'⟩
   ·exact hn (hk.old a b x hs)
   ·obtain rfl:=hw.inj' a a' b (.inl x) (.inl x')
    exact hn h'
  ·rcases hs with hs | ⟨a',x',h'⟩
   ·have:=(hown b hb).2.1; omega
   ·exact (hown b hb).2.2.2 a' x'
 ·rcases hb with hb | ⟨a,x,_⟩
  ·exact Nat.lt_of_lt_of_le hb hk.size
  ·exact (hw.lt a b (.inl x)).2
end
end Go.Mt
namespace Go.Proofs.YtkfafknliihabaaDoor
open Go.RowKit Go.Mt Go.Conc Go.Tt Go.Conc.Lib Go.ConcR.Gen
noncomputable def bodySM : Go.Code:=(Tryd.f33.body).getD .skip
noncomputable def tailSM : Go.Code:=match bodySM with | .seq _ (.seq _ (.seq _ (.seq _ a))) => a | _ => .skip
noncomputable def loopSM : Go.Code:=match tailSM with | .seq _ (.seq _ (.seq _ (.seq (.seq _ (.block _ (.loop a))) _))) => a | _ => .skip
noncomputable def rSM0 : Go.Code:=match bodySM with | .seq a _ => a | _ => .skip
noncomputable def rSM1 : Go.Code:=match bodySM with | .seq _ (.seq (.seq a _) _) => a | _ => .skip
noncomputable def rSM2 : Go.Code:=match bodySM with | .seq _ (.seq (.seq _ (.cond _ (.seq a _) _)) _) => a | _ => .skip
noncomputable def rSM3 : Go.Code:=match bodySM with | .seq _ (.seq _ (.seq a _)) => a | _ => .skip
noncomputable def rSM4 : Go.Code:=match bodySM with | .seq _ (.seq _ (.seq _ (.seq a _))) => a | _ => .skip
noncomputable def rSM5 : Go.Code:=match tailSM with | .seq a _ => a | _ => .skip
noncomputable def rSM6 : Go.Code:=match tailSM with | .seq _ (.seq a _) => a | _ => .skip
noncomputable def rSM7 : Go.Code:=match tailSM with | .seq _ (.seq _ (.seq a _)) => a | _ => .skip
noncomputable def rSM8 : Go.Code:=match tailSM with | .seq _ (.seq _ (.seq _ (.seq (.seq a _) _))) => a | _ => .skip
noncomputable def rSM12 : Go.Code:=match tailSM with | .seq _ (.seq _ (.seq _ (.seq _ (.seq a _)))) => a | _ => .skip
noncomputable def rSM13 : Go.Code:=match tailSM with | .seq _ (.seq _ (.seq _ (.seq _ (.seq _ (.seq a _))))) => a | _ => .skip
noncomputable def rSM9 : Go.Code:=match loopSM with | .seq a _ => a | _ => .skip
noncomputable def rSM10 : Go.Code:=match loopSM with | .seq _ (.seq _ (.block _ (.seq a _))) => a | _ => .skip
noncomputable def rSM11 : Go.Code:=match loopSM with | .seq _ (.seq _ (.block _ (.seq _ a))) => a | _ => .skip
theorem loopSM_eq : loopSM = .seq rSM9 (.seq (.cond (.tmp 35) .skip (.exit 0)) (.block 1 (.seq rSM10 rSM11))):=rfl
theorem tailSM_eq : tailSM = .seq rSM5 (.seq rSM6 (.seq rSM7 (.seq (.seq rSM8 (.block 0 (.loop loopSM))) (.seq rSM12 (.seq rSM13 .ret))))):=rfl
theorem bodySM_eq : bodySM = .seq rSM0 (.seq (.seq rSM1 (.cond (.tmp 28) (.seq rSM2 .ret) .skip)) (.seq rSM3 (.seq rSM4 tailSM))):=rfl
structure Boxes (w w' : World) (v0 v1 v2 v3 v4 : Value) : Prop where
 b0 : w'.heap[w.heap.size]? = some (.cells #[v0] 23)
 b1 : w'.heap[w.heap.size + 1]? = some (.cells #[v1] 24)
 b2 : w'.heap[w.heap.size + 2]? = some (.cells #[v2] 24)
 b3 : w'.heap[w.heap.size + 3]? = some (.cells #[v3] 3)
 b4 : w'.heap[w.heap.size + 4]? = some (.cells #[v4] 4)
 size : w.heap.size + 5 <= w'.heap.size
 below : Below w.heap.size w w'
def okS (rooms : List Int) (ds ts : List DeedD) (turns : Int) : Bool:=choiceB rooms ds ts && decide (0 <= turns) && decide (turns <= 40)
section
variable {Q : Exit -> Go.Act -> World -> Prop} {u0 u1 u2 u3 u4 u5 u6 u7 u8 u9 u10 u11 u12 u13 u14 u15 u16 u17 u18 u19 u20 u21 u22 u23 u24 u25 u26 u27 u28 u29 u30 u31 u32 u33 u34 u35 u36 u37 u38 u39 u40 u41 u42 : Value} {w : World}
set_option maxHeartbeats 1000000 in
theorem wpSM0 {A1 A2 A3 : Option Addr} {n1 c1 n2 c2 n3 c3 : Nat} {tn : Int} {ar : Bool} (h : ∀ w',Boxes w w' (.slice A1 n1 c1) (.slice A2 n2 c2) (.slice A3 n3 c3) (.int .i64 tn) (.bool ar) -> Q .normal ⟨#[.slice A1 n1 c1,.slice A2 n2 c2,.slice A3 n3 c3,.int .i64 tn,.bool ar,.pointer (some ⟨w.heap.size,0,none⟩),.pointer (some ⟨w.heap.size + 1,0,none⟩),.pointer (some ⟨w.heap.size + 2,0,none⟩),.pointer (some ⟨w.heap.size + 3,0,none⟩),.pointer (some ⟨w.heap.size + 4,0,none⟩),.slice none 0 0,.bool false,u12,u13,u14,u15,u16,u17,u18,u19,u20,u21,u22,u23,u24,u25,u26,u27,u28,u29,u30,u31,u32,u33,u34,u35,u36,u37,u38,u39,u40,u41,u42],[]⟩ w') :
  Code.wp Tryd.prog rSM0 Q ⟨#[.slice A1 n1 c1,.slice A2 n2 c2,.slice A3 n3 c3,.int .i64 tn,.bool ar,u5,u6,u7,u8,u9,u10,u11,u12,u13,u14,u15,u16,u17,u18,u19,u20,u21,u22,u23,u24,u25,u26,u27,u28,u29,u30,u31,u32,u33,u34,u35,u36,u37,u38,u39,u40,u41,u42],[]⟩ w:=by
 simp only [rSM0,bodySM,Tryd.f33,Option.getD_some]
 go_wp2
 all_goals
  have e1 : ∀ (W : World) (o : Obj),(W.alloc o).heap[W.heap.size]? = some o:=λ W o => heap_alloc_new W o
  refine ⟨?_,?_,?_,?_,?_,by simp,?_⟩
  ·exact blk_alloc (blk_alloc (blk_alloc (blk_alloc (e1 _ _) _) _) _) _
  ·have:=blk_alloc (blk_alloc (blk_alloc (e1 (w.alloc (.cells #[.slice A1 n1 c1] 23)) (.cells #[.slice A2 n2 c2] 24)) (.cells #[.slice A3 n3 c3] 24)) (.cells #[.int .i64 tn] 3)) (.cells #[.bool ar] 4)
   simpa using this
  ·have:=blk_alloc (blk_alloc (e1 ((w.alloc (.cells #[.slice A1 n1 c1] 23)).alloc (.cells #[.slice A2 n2 c2] 24)) (.cells #[.slice A3 n3 c3] 24)) (.cells #[.int .i64 tn] 3)) (.cells #[.bool ar] 4)
   simpa using this
  ·have:=blk_alloc (e1 (((w.alloc (.cells #[.slice A1 n1 c1] 23)).alloc (.cells #[.slice A2 n2 c2] 24)).alloc (.cells #[.slice A3 n3 c3] 24)) (.cells #[.int .i64 tn] 3)) (.cells #[.bool ar] 4)
   simpa using this
  ·have:=e1 ((((w.alloc (.cells #[.slice A1 n1 c1] 23)).alloc (.cells #[.slice A2 n2 c2] 24)).alloc (.cells #[.slice A3 n3 c3] 24)).alloc (.cells #[.int .i64 tn] 3)) (.cells #[.bool ar] 4)
   simpa using this
  ·exact below_alB (below_alB (below_alB (below_alB (below_al (Below.refl _ _) _) (by simp) _) (by simp; omega) _) (by simp; omega) _) (by simp; omega) _
set_option maxHeartbeats 2000000 in
theorem wpSM1 {w0 : World} {A1 A2 A3 : Option Addr} {n1 c1 n2 c2 n3 c3 : Nat} {tn : Int} {ar : Bool} {rooms : List Int} {ds ts : List DeedD} (hb : Boxes w0 w (.slice A1 n1 c1) (.slice A2 n2 c2) (.slice A3 n3 c3) (.int .i64 tn) (.bool ar))
  (h1 : Slc w 0 w.heap.size 1 A1 n1 c1 (ints rooms)) (h2 : Slc w 0 w.heap.size 3 A2 n2 c2 (deeds ds)) (h3 : Slc w 0 w.heap.size 3 A3 n3 c3 (deeds ts)) (hn1 : n1 <= 1048576) (hn2 : n2 <= 1048576) (hn3 : n3 <= 1048576)
  (h : ∀ w' u16 u17 u18 u19 u20 u21 u22 u23 u24 u25 u26 u27,Below w.heap.size w w' -> Q .normal ⟨#[u0,u1,u2,u3,u4,.pointer (some ⟨w0.heap.size,0,none⟩),.pointer (some ⟨w0.heap.size + 1,0,none⟩),.pointer (some ⟨w0.heap.size + 2,0,none⟩),.pointer (some ⟨w0.heap.size + 3,0,none⟩),.pointer (some ⟨w0.heap.size + 4,0,none⟩),u10,u11,u12,u13,u14,u15,u16,u17,u18,u19,u20,u21,u22,u23,u24,u25,u26,u27,.bool (!okS rooms ds ts tn),u29,u30,u31,u32,u33,u34,u35,u36,u37,u38,u39,u40,u41,u42],[]⟩ w') :
  Code.wp Tryd.prog rSM1 Q ⟨#[u0,u1,u2,u3,u4,.pointer (some ⟨w0.heap.size,0,none⟩),.pointer (some ⟨w0.heap.size + 1,0,none⟩),.pointer (some ⟨w0.heap.size + 2,0,none⟩),.pointer (some ⟨w0.heap.size + 3,0,none⟩),.pointer (some ⟨w0.heap.size + 4,0,none⟩),u10,u11,u12,u13,u14,u15,u16,u17,u18,u19,u20,u21,u22,u23,u24,u25,u26,u27,u28,u29,u30,u31,u32,u33,u34,u35,u36,u37,u38,u39,u40,u41,u42],[]⟩ w:=by
 have e0:=blk_cell hb.b0 0
 have e1:=blk_cell hb.b1 0
 have e2:=blk_cell hb.b2 0
 have e3:=blk_cell hb.b3 0
 have HB:=Go.Lib.hid hb
 have z0:=hb.size
 have HN:=Go.Lib.hid (impl_choiceValid _ _ _ _ _ _ _ _ _ _ _ _ _ _ _ rooms ds ts w h1 h2 h3 hn1 hn2 hn3)
 clear hb h1 h2 h3
 generalize hg0 : w0.heap.size = N at *
 obtain ⟨o,ho⟩ : ∃ o,o = choiceB rooms ds ts:=⟨_,rfl⟩
 rw [<- ho] at HN
 have hF : okS rooms ds ts tn = (o && decide (0 <= tn) && decide (tn <= 40)):=by rw [ho]; rfl
 rw [hF] at h
 clear hF ho hg0
 simp only [rSM1,bodySM,Tryd.f33,Option.getD_some]
 cases o with
 | false =>
  go_wp2_with (go_at_call 41; refine HN.out.mono ?_; rintro e w1 ⟨rfl,hb1⟩)
  all_goals first | assumption | simpa using h _ _ _ _ _ _ _ _ _ _ _ _ _ hb1
 | true =>
  by_cases ha : tn < 0
  ·have ha' : ¬ 0 <= tn:=by omega
   simp only [ha',decide_false,Bool.and_false,Bool.false_and,Bool.not_false] at h
   go_wp2_with (go_at_call 41; refine HN.out.mono ?_; rintro e w1 ⟨rfl,hb1⟩; have e4:=cellB hb1 (by omega) e3)
   all_goals first | assumption | simpa using h _ _ _ _ _ _ _ _ _ _ _ _ _ hb1
  ·by_cases hc : 40 < tn
   ·have hc' : ¬ tn <= 40:=by omega
    have ha' : 0 <= tn:=by omega
    simp only [ha',hc',decide_false,decide_true,Bool.and_false,Bool.true_and,Bool.not_false] at h
    go_wp2_with (go_at_call 41; refine HN.out.mono ?_; rintro e w1 ⟨rfl,hb1⟩; have e4:=cellB hb1 (by omega) e3)
    all_goals first | assumption | simpa using h _ _ _ _ _ _ _ _ _ _ _ _ _ hb1
   ·have hc' : tn <= 40:=by omega
    have ha' : 0 <= tn:=by omega
    simp only [ha',hc',decide_true,Bool.and_true,Bool.true_and,Bool.not_true] at h
    go_wp2_with (go_at_call 41; refine HN.out.mono ?_; rintro e w1 ⟨rfl,hb1⟩; have e4:=cellB hb1 (by omega) e3)
    all_goals first | assumption | (have d1 : decide (tn < 0) = false:=decide_eq_false (by omega); have d2 : decide (40 < tn) = false:=decide_eq_false (by omega); simp only [d1,d2]; exact h _ _ _ _ _ _ _ _ _ _ _ _ _ hb1)
set_option maxHeartbeats 1000000 in
theorem wpSM2 (h : Q .normal ⟨#[u0,u1,u2,u3,u4,u5,u6,u7,u8,u9,.slice none 0 0,.bool false,u12,u13,u14,u15,u16,u17,u18,u19,u20,u21,u22,u23,u24,u25,u26,u27,u28,u29,u30,u31,u32,u33,u34,u35,u36,u37,u38,u39,u40,u41,u42],[]⟩ w) :
  Code.wp Tryd.prog rSM2 Q ⟨#[u0,u1,u2,u3,u4,u5,u6,u7,u8,u9,u10,u11,u12,u13,u14,u15,u16,u17,u18,u19,u20,u21,u22,u23,u24,u25,u26,u27,u28,u29,u30,u31,u32,u33,u34,u35,u36,u37,u38,u39,u40,u41,u42],[]⟩ w:=by
 simp only [rSM2,bodySM,Tryd.f33,Option.getD_some]
 go_wp2
 exact h
set_option maxHeartbeats 1000000 in
theorem wpSM13 (h : Q .normal ⟨#[u0,u1,u2,u3,u4,u5,u6,u7,u8,u9,u14,.bool true,u12,u13,u14,u15,u16,u17,u18,u19,u20,u21,u22,u23,u24,u25,u26,u27,u28,u29,u30,u31,u32,u33,u34,u35,u36,u37,u38,u39,u40,u41,u14],[]⟩ w) :
  Code.wp Tryd.prog rSM13 Q ⟨#[u0,u1,u2,u3,u4,u5,u6,u7,u8,u9,u10,u11,u12,u13,u14,u15,u16,u17,u18,u19,u20,u21,u22,u23,u24,u25,u26,u27,u28,u29,u30,u31,u32,u33,u34,u35,u36,u37,u38,u39,u40,u41,u42],[]⟩ w:=by
 simp only [rSM13,tailSM,bodySM,Tryd.f33,Option.getD_some]
 go_wp2
 exact h
def svals (l : List (Nat × List UInt8)) : List Value:=l.flatMap λ p => [.int .i64 p.1,.string ⟨p.2.toArray⟩]
structure SvI (base : Nat) (wb : World) (sv : List (Nat × List UInt8)) (k g cO : Nat) (w : World) : Prop where
 own : w.ownsRow base 31 2 (.slice (some ⟨g,0,none⟩) k cO) k (svals (sv.take k))
 below : Below base wb w
set_option maxHeartbeats 1000000 in
theorem wpSM7 (h : ∀ w' u32,SvI w.heap.size w [] 0 w.heap.size 0 w' -> Q .normal ⟨#[u0,u1,u2,u3,u4,u5,u6,u7,u8,u9,u10,u11,u12,u13,.slice (some ⟨w.heap.size,0,none⟩) 0 0,u15,u16,u17,u18,u19,u20,u21,u22,u23,u24,u25,u26,u27,u28,u29,u30,u31,u32,u33,u34,u35,u36,u37,u38,u39,u40,u41,u42],[]⟩ w') :
  Code.wp Tryd.prog rSM7 Q ⟨#[u0,u1,u2,u3,u4,u5,u6,u7,u8,u9,u10,u11,u12,u13,u14,u15,u16,u17,u18,u19,u20,u21,u22,u23,u24,u25,u26,u27,u28,u29,u30,u31,u32,u33,u34,u35,u36,u37,u38,u39,u40,u41,u42],[]⟩ w:=by
 simp only [rSM7,tailSM,bodySM,Tryd.f33,Option.getD_some]
 go_wp2
 all_goals first | exact ⟨row_empty (Nat.le_refl _) (heap_alloc_new _ _),below_al (Below.refl _ _) _⟩ | skip
set_option maxHeartbeats 1000000 in
theorem wpSM10 {p : Nat × List UInt8} (h : Q .normal ⟨#[u0,u1,u2,u3,u4,u5,u6,u7,u8,u9,u10,u11,u12,u13,u14,.pointer (some ⟨w.heap.size,0,none⟩),u16,u17,u18,u19,u20,u21,u22,u23,u24,u25,u26,u27,u28,u29,u30,u31,u32,u33,.tuple #[sval p,.bool true],u35,sval p,u37,u38,u39,u40,u41,u42],[]⟩ (w.alloc (.cells #[.int .i64 p.1,.string ⟨p.2.toArray⟩] 31))) :
  Code.wp Tryd.prog rSM10 Q ⟨#[u0,u1,u2,u3,u4,u5,u6,u7,u8,u9,u10,u11,u12,u13,u14,u15,u16,u17,u18,u19,u20,u21,u22,u23,u24,u25,u26,u27,u28,u29,u30,u31,u32,u33,.tuple #[sval p,.bool true],u35,u36,u37,u38,u39,u40,u41,u42],[]⟩ w:=by
 unfold sval at h ⊢
 simp only [rSM10,loopSM,tailSM,bodySM,Tryd.f33,Option.getD_some]
 go_wp2
 exact h
end
end Go.Proofs.YtkfafknliihabaaDoor
namespace Go.Proofs.YtkfafknliihabaaDoor
open Go.RowKit
structure SvD where
 i : Int
 s : ByteArray
 deriving DecidableEq
def SvD.cells (d : SvD) : List Value:=[.int .i64 d.i,.string d.s]
def srvs (l : List SvD) : List Value:=l.flatMap SvD.cells
def svd (p : Nat × List UInt8) : SvD:=⟨p.1,⟨p.2.toArray⟩⟩
def svds (l : List (Nat × List UInt8)) : List SvD:=l.map svd
theorem srvs_svds (l : List (Nat × List UInt8)) : srvs (svds l) = svals l:=by
 unfold srvs svds svals
 rw [List.flatMap_map]
 rfl
theorem svds_len (l : List (Nat × List UInt8)) : (svds l).length = l.length:=by simp [svds]
end Go.Proofs.YtkfafknliihabaaDoor
namespace Go.Proofs.YtkfafknliihabaaDoor
open Go.RowKit
theorem Slc.srvsLen {w : World} {lo hi n c : Nat} {A : Option Addr} {ds : List SvD} (h : Slc w lo hi 2 A n c (srvs ds)) : ds.length = n:=by
 have h1:=h.len; have h2:=flat_len SvD.cells (s:=2) (λ _ => rfl) ds
 unfold srvs at h1; omega
theorem Slc.srvsAt {w : World} {lo hi n c : Nat} {A : Option Addr} {ds : List SvD} (h : Slc w lo hi 2 A n c (srvs ds)) {k : Nat} (hk : k < n) :
  ∃ b off d,A = some ⟨b,off,none⟩ /\ lo <= b /\ b < hi /\ b < w.heap.size /\ ds[k]? = some d /\ w.cell? ⟨b,off + k * 2,none⟩ = some (.int .i64 d.i) /\ w.cell? ⟨b,off + k * 2 + 1,none⟩ = some (.string d.s):=by
 have hl:=h.srvsLen
 have hx : ds[k]? = some ds[k]:=List.getElem?_eq_getElem (by omega)
 have g : ∀ i,i < 2 -> (srvs ds)[k * 2 + i]? = (ds[k].cells)[i]?:=λ i hi => by
  have:=flat_get SvD.cells (s:=2) (λ _ => rfl) ds k i hi
  rw [hx] at this; exact this
 obtain ⟨b,off,rfl,h1,h2,h3,h4⟩:=h.cells hk
 exact ⟨b,off,ds[k],rfl,h1,h2,h3,hx,h4 0 _ (g 0 (by decide)),by rw [Nat.add_assoc]; exact h4 1 _ (g 1 (by decide))⟩
end Go.Proofs.YtkfafknliihabaaDoor
