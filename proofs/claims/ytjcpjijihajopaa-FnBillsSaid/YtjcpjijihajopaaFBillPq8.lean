/-
 Part 8 of what stands behind the last text.
-/
import Derived.Conc.TokenWalk
import Derived.Orders
import Derived.OrdersHeld
import Derived.Test.YtjcpjijihajopaaFBillPq7
set_option linter.unusedSectionVars false
set_option linter.unusedSimpArgs false
set_option linter.unusedVariables false
namespace Go.Mt
open Go.Conc Go.Tt
open Go.ConcR (KK wgBlock WgAt stA smA rd wr DC0)
section
variable {p : Program}
def botF (p : Program) : Frame := { (default : Frame) with fn := p.funcs.size, defers := [], mode := .panicking [goexitEntry] }
theorem born_stepG {f : FuncId} {fn : Func} {c : Code} {cap args : Array Value} (hf : p.funcs[f]? = some fn) (hn : (fn.name == "runtime.NumGoroutine") = false) (hb : fn.body = some c) (w : World) :
   stepG p false (born p { target := .fn (.func f) cap, args := args }) w = .go (G ((baseD f).at ⟨(args ++ cap) ++ Array.replicate (fn.ntmps - (args ++ cap).size) undef, []⟩ [.code c]) [botF p]) w #[] := by
 have hn' : ¬ fn.name = "runtime.NumGoroutine" := by simpa using hn
 simp [born, stepG, unwind, callDeferred, invoke, callFunc, hf, hn', hb, seen, GStep.after, G, Frame.enter, Frame.at, baseD, botF]
theorem quits_child {f : FuncId} {fn : Func} (hf : p.funcs[f]? = some fn) (hr : fn.results = #[]) (T : Array Value) (todo : List Item) : QuitsD p 2 0 (G { (baseD f).at ⟨T, []⟩ todo with mode := .returning } [botF p]) := by
 refine QuitsD.ctl (g' := G (botF p) []) rfl (λ w => ?_) ?_
 . simp [G, stepG, unwind, doReturn, results, Frame.at, baseD, botF, hf, hr, seen, GStep.after, goexitEntry]
 refine QuitsD.ctl (g' := { G (botF p) [] with status := .finished }) rfl (λ w => ?_) ⟨rfl, rfl⟩
 simp [G, stepG, unwind, botF, goexitEntry, Frame.catches]
 rfl
def closeD (ats : Array TypeId) (ty : TypeId) (cs : Array Bool) (c : Nat) : Deferred := { target := .builtin .close ats ty cs, args := #[.chan (some c)] }
theorem stepG_unwind_close {b : Frame} {a : Go.Act} {todo : List Item} {cs : List Frame} {ds : List Deferred} {ats : Array TypeId} {ty : TypeId} {cc : Array Bool} {c s r cap : Nat} {buf : Array Value} {tm : Bool} {w : World} (hd : a.defers = closeD ats ty cc c :: ds) (hc : w.heap[c]? = some (.chan cap buf false s r tm)) (hq : (p.funcs[b.fn]?).any (·.norace) = false) :
   stepG p false (G { b.at a todo with mode := .returning } cs) w = .go (G { b.at ⟨a.tmps, ds⟩ todo with mode := .returning } cs) (w.setChan c cap buf true s r tm) (closeEvents c) := by
 have hr : (invoke (.builtin .close ats ty cc) #[.chan (some c)]).run p w = .ok (.value (.tuple #[])) (w.setChan c cap buf true s r tm) := by
   simp [invoke, go_sem, run_close_open _ _ hc, World.setChan]
 have he : (invoke (.builtin .close ats ty cc) #[.chan (some c)]).events p w #[] = closeEvents c := by
   simp [invoke, go_sem, events_close_open _ _ hc, closeEvents]
 have hl : seen p b.fn (closeEvents c) = closeEvents c := seen_eq hq (by intro e he f; simp only [closeEvents, List.mem_toArray, List.mem_cons, List.not_mem_nil, or_false] at he; rcases he with rfl | rfl <;> simp)
 simp [G, stepG, unwind, callDeferred, Frame.at, hd, closeD, hr, he, hl, GStep.after]
end
section
variable [Go.ConcR.Payload] {Lk : Go.Conc.Lib.WgLink}
open Go.Conc.Lib Go.ConcR.Gen
theorem live_setChan {ty : TypeId} {Wg c : Nat} {w : World} (h : WgLive ty Wg w) {cap s r : Nat} {buf buf' : Array Value} {tm b b' : Bool} {s' r' cap' : Nat} (hc : w.heap[c]? = some (.chan cap buf b s r tm)) : WgLive ty Wg (w.setChan c cap' buf' b' s' r' tm) := by
 obtain ⟨x, y, h⟩ := h
 refine ⟨x, y, ?_⟩
 have hne : c ≠ Wg := λ e => by subst e; have h' : w.heap[c]? = some _ := h; rw [hc] at h'; cases h'
 show (w.setChan c cap' buf' b' s' r' tm).heap[Wg]? = _
 simp only [World.setChan, Array.getElem?_setIfInBounds_ne hne]
 exact h
theorem KeepF.triv (ty : TypeId) (Wg : Nat) (τ : Terr) : KeepF ty Wg τ (λ _ => True) := ⟨λ _ _ _ _ => trivial, λ _ _ _ _ _ => trivial⟩
set_option maxRecDepth 100000 in
theorem child_end {L : Type} {p : Program} (H : WgLib p Lk) {A : Proto L} {Fin : Goroutine -> World -> Prop} {Wg c : Nat} {l nx : L} (hc : A.act l = .close c nx) (hd : A.act nx = .done) (hdep : ∀ w, A.dep nx w) {f : FuncId} {fn : Func} (hf : p.funcs[f]? = some fn) (hr : fn.results = #[]) (hq : fn.norace = false)
   {τ : Terr} (hp : τ.pass c) {w : World} (hlive : WgLive Lk.tWg Wg w) (T : Array Value) (todo : List Item) (ats : Array TypeId) (ty : TypeId) (cc : Array Bool) :
   BehE p Lk.tWg Wg A Fin false (.usr l) 0 τ (G { (baseD f).at ⟨T, [closeD ats ty cc c, dcall Lk.done #[.pointer (some ⟨Wg, 0, none⟩)]]⟩ todo with mode := .returning } [botF p]) w := by
 refine BehE.usr rfl ?_
 unfold AtUsr
 rw [hc]
 refine ⟨rfl, hp, λ w₁ s s' r hcc => ⟨_, stepG_unwind_close rfl hcc (by show (p.funcs[f]?).any (·.norace) = false; rw [hf]; simp [hq]), rfl, ?_⟩⟩
 have hl1 : WgLive Lk.tWg Wg (w₁.setChan c 0 #[] true s' r false) := live_setChan (s.live hlive) hcc
 refine beh_silent rfl rfl (λ W₁ s => stepG_unwind_enter rfl H.f_done (nm_done Lk) rfl) λ W₁ s => ?_
 have := doneW (F := λ _ => True) (Fin := Fin) H hd (KeepF.triv Lk.tWg Wg τ) (λ w _ => hdep w) (c := { (baseD f).at ⟨T, []⟩ todo with mode := .returning }) (cs := [botF p]) rfl (quits_child hf hr T todo) W₁ ⟨trivial, s.live hl1⟩
 exact this
end
end Go.Mt
namespace Go.Mt
open Go.Conc Go.Tt
open Go.ConcR (KK wgBlock WgAt stA smA rd wr)
section
variable {S : FuncId -> Prop} {K K' R R' : Pr} {G : Nat} {St St' : Nat -> Prop} {w W : World}
theorem Pr.or_le {K K' R R' : Pr} (hK : K.le K') (hR : R.le R') : (R.or K).le (R'.or K') := λ a b x => x.imp (hR a b) (hK a b)
theorem _root_.Go.Tt.VR.monoK (hK : K.le K') {v v' : Value} (x : VR S K R v v') : VR S K' R v v' := by
 induction x with
 | bool b => exact .bool b
 | int k n => exact .int k n
 | string s => exact .string s
 | nilFunc => exact .nilFunc
 | nilIface => exact .nilIface
 | pointer x => exact .pointer x
 | slice x => exact .slice x
 | map x => exact .map x
 | chan x => exact .chan (x.mono (Pr.or_le hK (.refl _)))
 | func s e1 _ e2 _ i1 i2 => exact .func s e1 i1 e2 i2
 | iface _ ih => exact .iface ih
 | agg e _ ih => exact .agg e ih
 | tuple e _ ih => exact .tuple e ih
 | junk h => exact .junk h
theorem ArR.monoK (hK : K.le K') {xs xs' : Array Value} (x : ArR S K R xs xs') : ArR S K' R xs xs' := ⟨x.1, λ i v v' h1 h2 => (x.2 i v v' h1 h2).monoK hK⟩
theorem EntR.monoK (hK : K.le K') {e e' : MapEntry} (x : EntR S K R e e') : EntR S K' R e e' := by cases x with | mk a b => exact .mk (a.monoK hK) (b.monoK hK)
theorem ObR.monoK (hK : K.le K') {o o' : Obj} (x : ObR S K R o o') : ObR S K' R o o' := by
 cases x with
 | cells a b => exact .cells (ArR.monoK hK a) b
 | map a => exact .map ⟨a.1, λ i e e' h1 h2 => EntR.monoK hK (a.2 i e e' h1 h2)⟩
 | chan a => exact .chan (ArR.monoK hK a)
 | stringIter s p => exact .stringIter s p
 | number a => exact .number a
 | mapIter a => exact .mapIter a
theorem FmR.monoK {P : Pair} {fs : FuncId -> Bool} (hK : K.le K') {m m' : Fm} (x : FmR P fs K R m m') : FmR P fs K' R m m' := ⟨x.fn, x.todo, x.ret, ArR.monoK hK x.tmps, x.fit, x.infs⟩
theorem MsR.monoK {P : Pair} {fs : FuncId -> Bool} (hK : K.le K') {ms ms' : List Fm} (x : MsR P fs K R ms ms') : MsR P fs K' R ms ms' := by
 induction x with
 | nil => exact .nil
 | cons a b _ ih => exact .cons (FmR.monoK hK a) b ih
theorem WRel.real {W' : World} (h : WRel S K R G St w W) (hk : ∀ a b, R a b -> W'.heap[b]? = W.heap[b]?) (hs : W.heap.size <= W'.heap.size) : WRel S K R G St w W' := by
 refine ⟨h.inj, h.inj', λ a b x => ⟨(h.lt a b x).1, Nat.lt_of_lt_of_le (h.lt a b x).2 hs⟩, h.low, ⟨h.gle.1, Nat.le_trans h.gle.2 hs⟩, λ a b x => ?_, h.rest, h.st, h.np⟩
 obtain ⟨o, o', h1, h2, h3⟩ := h.cont a b x
 exact ⟨o, o', h1, (hk a b x).trans h2, h3⟩
def put (w : World) (b : Nat) (o : Obj) : World := { w with heap := w.heap.setIfInBounds b o }
theorem put_same {w : World} {b : Nat} {o : Obj} (h : b < w.heap.size) : (put w b o).heap[b]? = some o := by simp [put, h]
theorem put_ne {w : World} {a b : Nat} {o : Obj} (h : b ≠ a) : (put w b o).heap[a]? = w.heap[a]? := by simp [put, Array.getElem?_setIfInBounds_ne h]
theorem put_size {w : World} {b : Nat} {o : Obj} : (put w b o).heap.size = w.heap.size := by simp [put]
theorem WRel.put (h : WRel S K R G St w W) {b b' : Nat} (hb : R b b') {o o' : Obj} (hW : W.heap[b']? = some o') (ho : ObR S K R o o') (hst : ∀ a, St' a -> a ≠ b -> St a) (hb2 : St' b -> ∃ c T hi, o = .cells c T (0, hi) /\ c.size <= hi) : WRel S K R G St' (Mt.put w b o) W := by
 have hlt := (h.ltR b b' hb).1
 refine ⟨h.inj, h.inj', λ a c x => by rw [put_size]; exact h.lt a c x, h.low, by rw [put_size]; exact h.gle, λ a c x => ?_, λ a c x hn => ?_, λ a x => ?_, ?_⟩
 . by_cases e : b = a
   . subst e
     have := h.inj b b' c (.inl hb) (.inl x)
     subst this
     exact ⟨o, o', put_same hlt, hW, ho⟩
   . obtain ⟨y, y', h1, h2, h3⟩ := h.cont a c x
     exact ⟨y, y', (put_ne e).trans h1, h2, h3⟩
 . have e : b ≠ a := λ e => hn b' (e ▸ hb)
   exact (put_ne e).trans (h.rest a c x hn)
 . by_cases e : b = a
   . subst e
     obtain ⟨c, T, hi, e1, e2⟩ := hb2 x
     exact ⟨⟨b', hb⟩, c, T, hi, (put_same hlt).trans (by rw [e1]), e2⟩
   . obtain ⟨y, c, T, hi, h1, h2⟩ := h.st a (hst a x λ e2 => e e2.symm)
     exact ⟨y, c, T, hi, (put_ne e).trans h1, h2⟩
 . intro a c e hx
   by_cases ea : b = a
   . subst ea
     rw [put_same hlt] at hx
     obtain rfl := Option.some.inj hx
     exact ho.live c e rfl
   . rw [put_ne ea] at hx
     exact h.np a c e hx
theorem WRel.subSt (h : WRel S K R G St w W) (hs : ∀ a, St' a -> St a) : WRel S K R G St' w W := ⟨h.inj, h.inj', h.lt, h.low, h.gle, h.cont, h.rest, λ a x => h.st a (hs a x), h.np⟩
theorem heap_push (w : World) (o : Obj) : (w.alloc o).heap[w.heap.size]? = some o := by unfold World.alloc; simp
theorem heap_push_lt {w : World} {o : Obj} {a : Nat} (h : a < w.heap.size) : (w.alloc o).heap[a]? = w.heap[a]? := by unfold World.alloc; simp [Array.getElem?_push, Nat.ne_of_lt h]
theorem size_push (w : World) (o : Obj) : (w.alloc o).heap.size = w.heap.size + 1 := by unfold World.alloc; simp
theorem WRel.pushK (h : WRel S K R G St w W) {N : Nat} (hN : N < W.heap.size) (hf : ∀ a, ¬ (R.or K) a N) : WRel S (K.add w.heap.size N) R G St (w.alloc waste) W := by
 have hlt : ∀ a b, R.or K a b -> a ≠ w.heap.size := λ a b x => Nat.ne_of_lt (h.lt a b x).1
 have lift : ∀ a, (∃ b, R.or K a b) -> (w.alloc waste).heap[a]? = w.heap[a]? := λ a ⟨b, x⟩ => heap_push_lt (h.lt a b x).1
 refine ⟨?_, ?_, ?_, h.low, ⟨by rw [size_push]; exact Nat.le_succ_of_le h.gle.1, h.gle.2⟩, λ a b x => ?_, ?_, λ a x => ?_, h.np.push (by unfold waste; simp)⟩
 . rintro a b c (x | x | ⟨rfl, rfl⟩) (y | y | ⟨e, rfl⟩)
   . exact h.inj a b c (.inl x) (.inl y)
   . exact h.inj a b c (.inl x) (.inr y)
   . exact absurd e (hlt a b (.inl x))
   . exact h.inj a b c (.inr x) (.inl y)
   . exact h.inj a b c (.inr x) (.inr y)
   . exact absurd e (hlt a b (.inr x))
   . exact absurd rfl (hlt _ c (.inl y))
   . exact absurd rfl (hlt _ c (.inr y))
   . rfl
 . rintro a b c (x | x | ⟨rfl, rfl⟩) (y | y | ⟨rfl, e⟩)
   . exact h.inj' a b c (.inl x) (.inl y)
   . exact h.inj' a b c (.inl x) (.inr y)
   . exact absurd (e ▸ .inl x) (hf a)
   . exact h.inj' a b c (.inr x) (.inl y)
   . exact h.inj' a b c (.inr x) (.inr y)
   . exact absurd (e ▸ .inr x) (hf a)
   . exact absurd (.inl y) (hf b)
   . exact absurd (.inr y) (hf b)
   . rfl
 . rintro a b (x | x | ⟨rfl, rfl⟩)
   . exact ⟨by rw [size_push]; exact Nat.lt_succ_of_lt (h.lt a b (.inl x)).1, (h.lt a b (.inl x)).2⟩
   . exact ⟨by rw [size_push]; exact Nat.lt_succ_of_lt (h.lt a b (.inr x)).1, (h.lt a b (.inr x)).2⟩
   . exact ⟨by rw [size_push]; omega, hN⟩
 . obtain ⟨o, o', h1, h2, h3⟩ := h.cont a b x
   exact ⟨o, o', (lift a ⟨b, .inl x⟩).trans h1, h2, ObR.monoK (Pr.le_add _ _ _) h3⟩
 . rintro a b (x | ⟨rfl, rfl⟩) hn
   . exact (lift a ⟨b, .inr x⟩).trans (h.rest a b x hn)
   . exact heap_push w waste
 . obtain ⟨⟨b, y⟩, c, T, hi, h1, h2⟩ := h.st a x
   exact ⟨⟨b, y⟩, c, T, hi, (lift a ⟨b, .inl y⟩).trans h1, h2⟩
theorem WRel.pushR (h : WRel S K R G St w W) {N : Nat} (hG : G <= N) (hf : ∀ a, ¬ (R.or K) a N) {o o' : Obj} (hW : W.heap[N]? = some o') (ho : ObR S K (R.add w.heap.size N) o o') (hst : ∀ a, St' a -> a ≠ w.heap.size -> St a) (hs2 : St' w.heap.size -> ∃ c T hi, o = .cells c T (0, hi) /\ c.size <= hi) :
   WRel S K (R.add w.heap.size N) G St' (w.alloc o) W := by
 have hN : N < W.heap.size := (Array.getElem?_eq_some_iff.1 hW).1
 have hlt : ∀ a b, R.or K a b -> a ≠ w.heap.size := λ a b x => Nat.ne_of_lt (h.lt a b x).1
 have lift : ∀ a, (∃ b, R.or K a b) -> (w.alloc o).heap[a]? = w.heap[a]? := λ a ⟨b, x⟩ => heap_push_lt (h.lt a b x).1
 refine ⟨?_, ?_, ?_, ?_, ⟨by rw [size_push]; exact Nat.le_succ_of_le h.gle.1, h.gle.2⟩, ?_, λ a b x hn => ?_, λ a x => ?_, h.np.push ho.live⟩
 . rintro a b c ((x | ⟨rfl, rfl⟩) | x) ((y | ⟨e, rfl⟩) | y)
   . exact h.inj a b c (.inl x) (.inl y)
   . exact absurd e (hlt a b (.inl x))
   . exact h.inj a b c (.inl x) (.inr y)
   . exact absurd rfl (hlt _ c (.inl y))
   . rfl
   . exact absurd rfl (hlt _ c (.inr y))
   . exact h.inj a b c (.inr x) (.inl y)
   . exact absurd e (hlt a b (.inr x))
   . exact h.inj a b c (.inr x) (.inr y)
 . rintro a b c ((x | ⟨rfl, rfl⟩) | x) ((y | ⟨rfl, e⟩) | y)
   . exact h.inj' a b c (.inl x) (.inl y)
   . exact absurd (e ▸ .inl x) (hf a)
   . exact h.inj' a b c (.inl x) (.inr y)
   . exact absurd (.inl y) (hf b)
   . rfl
   . exact absurd (.inr y) (hf b)
   . exact h.inj' a b c (.inr x) (.inl y)
   . exact absurd (e ▸ .inr x) (hf a)
   . exact h.inj' a b c (.inr x) (.inr y)
 . rintro a b ((x | ⟨rfl, rfl⟩) | x)
   . exact ⟨by rw [size_push]; exact Nat.lt_succ_of_lt (h.lt a b (.inl x)).1, (h.lt a b (.inl x)).2⟩
   . exact ⟨by rw [size_push]; omega, hN⟩
   . exact ⟨by rw [size_push]; exact Nat.lt_succ_of_lt (h.lt a b (.inr x)).1, (h.lt a b (.inr x)).2⟩
 . rintro a b (x | ⟨rfl, rfl⟩)
   . exact h.low a b x
   . have := h.gle; constructor
     . constructor <;> intro <;> omega
     . intro; omega
 . rintro a b (x | ⟨rfl, rfl⟩)
   . obtain ⟨y, y', h1, h2, h3⟩ := h.cont a b x
     exact ⟨y, y', (lift a ⟨b, .inl x⟩).trans h1, h2, h3.mono (Pr.le_add _ _ _)⟩
   . exact ⟨o, o', heap_push w o, hW, ho⟩
 . exact (lift a ⟨b, .inr x⟩).trans (h.rest a b x λ c y => hn c (.inl y))
 . by_cases e : a = w.heap.size
   . subst e
     obtain ⟨c, T, hi, e1, e2⟩ := hs2 x
     exact ⟨⟨N, .inr ⟨rfl, rfl⟩⟩, c, T, hi, (heap_push w o).trans (by rw [e1]), e2⟩
   . obtain ⟨⟨b, y⟩, c, T, hi, h1, h2⟩ := h.st a (hst a x e)
     exact ⟨⟨b, .inl y⟩, c, T, hi, (lift a ⟨b, .inl y⟩).trans h1, h2⟩
end
structure IM (W0 : World) (St : Nat -> Prop) (Shun : Loc -> Prop) (Wg : Nat) (SS : Nat -> Prop) (R : Pr) (τ : Terr) (W : World) : Prop where
 kp : Kp W0 R St W
 sh : Sh W0.heap.size Shun R W
 still : τ.still = SS
 wg : Wg < W.heap.size
 own : ∀ b, τ.own b -> b ≠ Wg
 rel : ∀ a b, R a b -> b ≠ Wg
section
variable {L : Type} {C : Cx L} {W0 : World} {St : Nat -> Prop} {Shun : Loc -> Prop} {SS : Nat -> Prop}
theorem im_ok (hC : C.I = IM W0 St Shun C.Wg SS) (hst : ∀ a, St a -> C.St a) (hSS : ∀ b, b < W0.heap.size -> SS b) : IOk C := by
 refine ⟨λ R τ W W₁ h s => ?_, λ R τ W R1 W1 h ht hs => ?_, λ R τ W h => ?_⟩ <;> rw [hC] at *
 . refine ⟨⟨s.os.trans h.kp.os, s.tape.trans h.kp.tape, s.output.trans h.kp.output, Nat.le_trans h.kp.size s.size, λ b hb => (s.keep b (.inr (by rw [h.still]; exact hSS b hb))).trans (h.kp.block b hb), h.kp.old⟩, ⟨h.sh.old, h.sh.rel, λ l b hl hb => h.sh.new l b hl (Nat.le_trans s.size hb)⟩, h.still, Nat.lt_of_lt_of_le h.wg s.size, h.own, h.rel⟩
 . refine ⟨⟨hs.os.trans h.kp.os, hs.tape.trans h.kp.tape, hs.output.trans h.kp.output, Nat.le_trans h.kp.size hs.size, λ b hb => ?_, λ a b x hb => ?_⟩, ⟨h.sh.old, λ a b x l hl => ?_, λ l b hl hb => h.sh.new l b hl (Nat.le_trans hs.size hb)⟩, h.still, Nat.lt_of_lt_of_le h.wg hs.size, λ b hb => ?_, λ a b x => ?_⟩
   . rw [hs.keep b (Nat.lt_of_lt_of_le hb h.kp.size) (λ a x => hst a (h.kp.old a b x hb))]
     exact h.kp.block b hb
   . rcases hs.new a b x with y | ⟨y, _⟩
     . exact h.kp.old a b y hb
     . have := h.kp.size; omega
   . rcases hs.new a b x with y | ⟨y, _⟩
     . exact h.sh.rel a b y l hl
     . exact h.sh.new l b hl y
   . rcases hb with hb | ⟨hb, _⟩
     . exact h.own b hb
     . have := h.wg; omega
   . rcases hs.new a b x with y | ⟨y, _⟩
     . exact h.rel a b y
     . have := h.wg; omega
 . exact ⟨λ e => h.own _ e rfl, h.wg⟩
theorem setCell_ne (W : World) (a : Addr) (v : Value) {b : Nat} (h : b ≠ a.block) : (W.setCell a v).heap[b]? = W.heap[b]? := (aside_setCell W a v).block b h
theorem setCell_size (W : World) (a : Addr) (v : Value) : (W.setCell a v).heap.size = W.heap.size := (aside_setCell W a v).size
theorem IM.cell {R : Pr} {τ : Terr} {W : World} {Wg : Nat} (h : IM W0 St Shun Wg SS R τ W) (hW : W0.heap.size <= Wg) {a : Addr} (ha : a.block = Wg) (v : Value) : IM W0 St Shun Wg SS R τ (W.setCell a v) := by
 have hA := aside_setCell W a v
 refine ⟨⟨hA.os.trans h.kp.os, hA.tape.trans h.kp.tape, hA.output.trans h.kp.output, by rw [setCell_size]; exact h.kp.size, λ b hb => (setCell_ne W a v (by omega)).trans (h.kp.block b hb), h.kp.old⟩, ⟨h.sh.old, h.sh.rel, λ l b hl hb => h.sh.new l b hl (by rw [setCell_size] at hb; exact hb)⟩, h.still, by rw [setCell_size]; exact h.wg, h.own, h.rel⟩
end
end Go.Mt
namespace Go.Mt
open Go.Conc Go.Tt
open Go.ConcR (KK wgBlock WgAt stA smA rd wr DC0)
section
variable {L : Type} {C : Cx L} {l : L}
theorem BO.regs (hI : IOk C) {fn : FuncId} {tmps : Array Value} {k : List Item} {w : World} {id : Nat} {ops : Array Oper} (is : List Nat) (hr : List.range ops.size = is) (h : BO C l ⟨fn, tmps, .inRegion ops is :: k, false⟩ w) : BO C l ⟨fn, tmps, .code (.region id ops false) :: k, false⟩ w := BO.reg hI (by rw [hr]; exact h)
def Cx.dfr (C : Cx L) (d : Deferred) : Cx L := { C with ds := ⟨d :: C.ds.ds, C.ds.kd, C.ds.ok⟩ }
theorem IOk.dfr (hI : IOk C) (d : Deferred) : IOk (C.dfr d) := ⟨hI.suf, hI.step, hI.wg⟩
theorem defer_step {p : Program} {main : Bool} {b : Frame} {a : Go.Act} {k : List Item} {cs : List Frame} {w : World} {ops : Array Oper} {i : Nat} {rest : List Nat} {o : Oper} {d : Deferred} (ho : ops[i]? = some o) (hw : Region.wanted o (yielded ops a.tmps) = true) (hk : b.kind ≠ .early) (hdst : o.dst = none)
   (hr : (execOp a.eval o).run p w = .ok (.defer d) w) (he : (execOp a.eval o).events p w #[] = #[]) :
   stepG p main (G (b.at a (.inRegion ops (i :: rest) :: k)) cs) w = .go (G (b.at ⟨a.tmps, d :: a.defers⟩ (.inRegion ops rest :: k)) cs) w #[] := by
 have hfin : (b.at ⟨a.tmps, d :: a.defers⟩ (.inRegion ops (i :: rest) :: k)).finish undef = b.at ⟨a.tmps, d :: a.defers⟩ (.inRegion ops rest :: k) := by rw [Frame.finish_at, ho]; simp [hdst, Go.Act.put]
 have hk' : (b.kind == CallKind.early) = false := by simpa using hk
 rw [stepG_oper ho hw, <- hfin]
 simp [stepG.apply, hr, he, G, Frame.at, hk', GStep.after, seen_none]
theorem BO.defer (hI : IOk C) {fn : FuncId} {tmps : Array Value} {ops : Array Oper} {i : Nat} {rest : List Nat} {k : List Item} {w : World} {o : Oper} {d : Deferred} (ho : ops[i]? = some o) (hwt : Region.wanted o (yielded ops tmps) = true) (hdst : o.dst = none)
   (hx : ∀ R w W tmps', C.Rel R w W -> ArR (SF C.fs) C.K R tmps tmps' -> (∀ x ∈ C.pin, tmps'.getD x.1 undef = x.2) -> ∀ W₁, (execOp (Go.Act.mk tmps' C.ds.ds).eval o).run C.p W₁ = .ok (.defer d) W₁ /\ (execOp (Go.Act.mk tmps' C.ds.ds).eval o).events C.p W₁ #[] = #[])
   (h : BO (C.dfr d) l ⟨fn, tmps, .inRegion ops rest :: k, false⟩ w) : BO C l ⟨fn, tmps, .inRegion ops (i :: rest) :: k, false⟩ w := by
 intro R W m' τ hw hm ht hi
 obtain ⟨fn', tmps', todo', ret'⟩ := m'
 obtain rfl := hm.fn
 obtain rfl := hm.todo
 obtain rfl := hm.ret
 rw [fx_at]
 refine beh_silent rfl rfl (g' := G ((C.ds.base fn).at ⟨tmps', d :: C.ds.ds⟩ (.inRegion ops rest :: k)) C.base) (λ W₁ s => ?_) λ W₁ s => ?_
 . obtain ⟨h1, h2⟩ := hx R w W tmps' hw hm.tmps hm.pins W₁
   exact defer_step ho (wanted_rel (C := C) hm.tmps hwt) C.ds.ok hdst h1 h2
 . have := h R W₁ ⟨fn, tmps', .inRegion ops rest :: k, false⟩ τ (Cx.Rel.suf (C := C) hw ht s) ⟨rfl, rfl, rfl, hm.tmps, hm.pins⟩ ht (hI.suf _ _ _ _ hi s)
   rw [fx_at] at this
   exact this
theorem exec_deferF {p : Program} {o : Oper} {f : FuncId} {ars : Array Operand} {ats : Array TypeId} {ρ : Operand -> Value} (hop : o.op = .defer { callee := .value (.func f), args := ars, argTypes := ats }) (hρ : ρ (.func f) = .func (.func f) #[] #[]) (w : World) :
   (execOp ρ o).run p w = .ok (.defer (dcall f (ars.map ρ))) w /\ (execOp ρ o).events p w #[] = #[] := by
 obtain ⟨dst, op', type, pos, after, guard⟩ := o
 simp only at hop
 subst hop
 constructor
 . simp [execOp, resolve, Deferred.ofValue, hρ, dcall, bind, Sem.bind, pure, Sem.run]
 . simp [execOp, resolve, Deferred.ofValue, hρ, dcall, bind, Sem.bind, pure, Sem.run, Sem.events, Sem.runT]
theorem exec_deferC {p : Program} {o : Oper} {x : Tmp} {ats : Array TypeId} {ρ : Operand -> Value} {c : Nat} (hop : o.op = .defer { callee := .builtin .close, args := #[.tmp x], argTypes := ats }) (hx : ρ (.tmp x) = .chan (some c)) (w : World) :
   (execOp ρ o).run p w = .ok (.defer (closeD ats o.type #[false] c)) w /\ (execOp ρ o).events p w #[] = #[] := by
 obtain ⟨dst, op', type, pos, after, guard⟩ := o
 simp only at hop
 subst hop
 constructor
 . simp [execOp, resolve, hx, closeD, bind, Sem.bind, pure, Sem.run]
 . simp [execOp, resolve, hx, closeD, bind, Sem.bind, pure, Sem.run, Sem.events, Sem.runT]
structure IC (ty : TypeId) (Wg c : Nat) (R : Pr) (τ : Terr) (W : World) : Prop where
 pass : τ.pass c
 own : ¬ τ.own Wg
 lt : Wg < W.heap.size
 live : WgLive ty Wg W
theorem ic_ok {c : Nat} (hC : C.I = IC C.ty C.Wg c) : IOk C := by
 refine ⟨λ R τ W W₁ h s => ?_, λ R τ W R1 W1 h ht hs => ?_, λ R τ W h => ?_⟩ <;> rw [hC] at *
 . exact ⟨h.pass, h.own, Nat.lt_of_lt_of_le h.lt s.size, s.live h.live⟩
 . refine ⟨h.pass, λ e => e.elim h.own λ x => ?_, Nat.lt_of_lt_of_le h.lt hs.size, ?_⟩
   . have := h.lt; omega
   . obtain ⟨a, b, hl⟩ := h.live
     exact ⟨a, b, (hs.keep C.Wg h.lt λ a x => Classical.byContradiction λ z => h.own ((ht a _ x).2 z)).trans hl⟩
 . exact ⟨h.own, h.lt⟩
theorem fin_goes {p : Program} {Post : Value -> World -> Prop} {Shun : Loc -> Prop} : ∀ (n : Nat) (g : Goroutine) (w : World), Goes p true AtRel DC0 (λ g w => J p Post Shun w.heap.size g w) n g w -> J p Post Shun w.heap.size g w := by
 intro n
 induction n with
 | zero => exact λ g w h => by have := h w ⟨w.drawn, rfl⟩; exact this
 | succ n ih =>
   intro g w h
   rcases h with h | ⟨hs, h⟩
   . have := h w ⟨w.drawn, rfl⟩; exact this
   . refine J.own hs λ d => ?_
     obtain ⟨g₁, w', es, hgo, ⟨e1, e2⟩, hg⟩ := goes_elim (h (w.at d) ⟨d, rfl⟩)
     subst e1 e2
     exact ⟨g₁, _, #[], _, hgo, λ e he => by simp at he, Nat.le_refl _, ih _ _ hg⟩
theorem exec_load1 {p : Program} {o : Oper} {t : TypeId} {x : Operand} {ρ : Operand -> Value} {a : Addr} {v : Value} {w : World} (hop : o.op = .load t x) (hx : ρ x = .pointer (some a)) (hagg : (isAgg t).run p w = .ok false w) (hc : w.cell? a = some v) : (execOp ρ o).run p w = .ok (.value v) w := by
 obtain ⟨dst, op', type, pos, after, guard⟩ := o
 simp only at hop
 subst hop
 simp [execOp, Instr.loadAt, hx, go_sem, loadVar, hagg, hc]
theorem exec_loadRow {p : Program} {o : Oper} {t T : TypeId} {x : Operand} {ρ : Operand -> Value} {g : Nat} {cs : Array Value} {fr : Nat × Nat} {d : TypeDesc} {w : World} (hop : o.op = .load t x) (hx : ρ x = .pointer (some ⟨g, 0, none⟩)) (hg : w.heap[g]? = some (.cells cs T fr))
   (hu : p.underlying t = some d) (hd : (match d with | .struct _ | .array _ _ => true | _ => false) = true) (hi : (p.info? t).map (·.size) = some cs.size) : (execOp ρ o).run p w = .ok (.value (.agg cs)) w := by
 obtain ⟨dst, op', type, pos, after, guard⟩ := o
 simp only at hop
 subst hop
 have e : Instr.loadAt t (ρ x) = loadVar t ⟨g, 0, none⟩ := by rw [hx]; rfl
 have hv := run_loadVar_row w g T t cs fr d hg hu hd hi
 show Sem.run p (Sem.bind (Instr.loadAt t (ρ x)) (λ v => Sem.pure (Next.value v))) w = _
 rw [Sem.run_bind', e, hv]
 rfl
end
theorem run_bv {p : Program} {s : Sem Value} {w w' : World} {v : Value} (h : s.run p w = .ok v w') : Sem.run p (Sem.bind s (λ v => Sem.pure (Next.value v))) w = .ok (.value v) w' := by rw [Sem.run_bind', h]; rfl
theorem ev_bv {p : Program} {s : Sem Value} {w w' : World} {v : Value} {es es' : Array Event} (h : s.run p w = .ok v w') (he : s.events p w es = es') : Sem.events p (Sem.bind s (λ v => Sem.pure (Next.value v))) w es = es' := by rw [Sem.events_bind', h, Result.evThen_ok, he]; rfl
section
variable {p : Program} {Post : Value -> World -> Prop} {Shun : Loc -> Prop}
theorem J.sil {B : Nat} {g g' : Goroutine} {w : World} (hg : g.status = .running) (hst : ∀ w, stepG p true g w = .go g' w #[]) (h : ∀ d, J p Post Shun B g' (w.at d)) : ∀ d, J p Post Shun B g (w.at d) := λ d =>
 J.own hg λ d' => ⟨g', w.at d', #[], B, hst _, λ e he => by simp at he, Nat.le_refl _, h d'⟩
theorem J.opv {b : Frame} {a : Go.Act} {ops : Array Oper} {i : Nat} {rest : List Nat} {k : List Item} {cs : List Frame} {w w' : World} {o : Oper} {v : Value} (ho : ops[i]? = some o) (hw : Region.wanted o (yielded ops a.tmps) = true) (hk : b.kind ≠ .early)
   (hr : ∀ d, (execOp a.eval o).run p (w.at d) = .ok (.value v) (w'.at d) \/ ((execOp a.eval o).run p (w.at d) = .ok .skip (w'.at d) /\ v = undef)) (he : ∀ d, ∀ e ∈ (execOp a.eval o).events p (w.at d) #[], EvL Shun w'.heap.size e) (hsz : w.heap.size <= w'.heap.size)
   (h : ∀ d, J p Post Shun w'.heap.size (G (b.at (a.put o.dst v) (.inRegion ops rest :: k)) cs) (w'.at d)) : ∀ d, J p Post Shun w.heap.size (G (b.at a (.inRegion ops (i :: rest) :: k)) cs) (w.at d) := λ d => by
 refine J.own rfl λ d' => ⟨_, w'.at d', listed p b.fn a o (w.at d'), w'.heap.size, ?_, λ e hx => he d' e (mem_listed' hx), hsz, h d'⟩
 rcases hr d' with h1 | ⟨h1, h2⟩
 . exact stepG_value ho hw hk h1
 . rw [h2]; exact stepG_none ho hw hk h1
 where mem_listed' {p : Program} {f : FuncId} {a : Go.Act} {o : Oper} {w : World} {e : Event} (h : e ∈ listed p f a o w) : e ∈ (execOp a.eval o).events p w #[] := mem_seen h
theorem J.opq {B : Nat} {b : Frame} {a : Go.Act} {ops : Array Oper} {i : Nat} {rest : List Nat} {k : List Item} {cs : List Frame} {w w' : World} {o : Oper} {v : Value} (ho : ops[i]? = some o) (hw : Region.wanted o (yielded ops a.tmps) = true) (hk : b.kind ≠ .early)
   (hr : ∀ d, (execOp a.eval o).run p (w.at d) = .ok (.value v) (w'.at d)) (he : ∀ d, ∀ e ∈ (execOp a.eval o).events p (w.at d) #[], False)
   (h : ∀ d, J p Post Shun B (G (b.at (a.put o.dst v) (.inRegion ops rest :: k)) cs) (w'.at d)) : ∀ d, J p Post Shun B (G (b.at a (.inRegion ops (i :: rest) :: k)) cs) (w.at d) := λ d =>
 J.own rfl λ d' => ⟨_, w'.at d', listed p b.fn a o (w.at d'), B, stepG_value ho hw hk (hr d'), λ e hx => (he d' e (mem_seen hx)).elim, Nat.le_refl _, h d'⟩
theorem evL_own {Shun : Loc -> Prop} {B : Nat} {a : Addr} {wr sy : Bool} (hs : ¬ Shun (.cell a)) (hb : a.block < B) : EvL Shun B ⟨.cell a, wr, sy⟩ := by
 refine ⟨λ x hx hsh => ?_, by simp, by simp, ?_⟩
 . have : x.loc = .cell a := by
     cases wr <;> cases sy <;> simp only [MemAct.ofEvent, MemAct.touch?, Option.some.injEq] at hx <;> first | (subst hx; rfl) | (cases hx; done)
   exact absurd (this ▸ hsh) hs
 . cases wr <;> cases sy <;> exact hb
end
end Go.Mt
namespace Go.Mt
open Go.Conc Go.Tt
structure Blk where
 rb : Nat
 off : Nat
 cs : Array Value
 T : TypeId
 fz : Nat × Nat
def plainV (v : Value) : Prop := (∃ k n, v = .int k n) \/ (∃ s, v = .string s) \/ ∃ b, v = .bool b
theorem plain_eq {S : FuncId -> Prop} {K R : Pr} {v v' : Value} (h : plainV v) (x : VR S K R v v') : v' = v := by
 rcases h with ⟨k, n, rfl⟩ | ⟨s, rfl⟩ | ⟨b, rfl⟩ <;> cases x <;> rfl
inductive Uni : Value -> Prop
 | bool (b : Bool) : Uni (.bool b)
 | int (k : IntKind) (n : Int) : Uni (.int k n)
 | string (s : ByteArray) : Uni (.string s)
 | nilFunc : Uni .nilFunc
 | nilIface : Uni .nilIface
 | agg {xs : Array Value} : (∀ (i : Nat) (v : Value), xs[i]? = some v -> Uni v) -> Uni (.agg xs)
 | tuple {xs : Array Value} : (∀ (i : Nat) (v : Value), xs[i]? = some v -> Uni v) -> Uni (.tuple xs)
theorem Uni.vr {S : FuncId -> Prop} {K R K' R' : Pr} {u v : Value} (x : VR S K R u v) (hu : Uni u) : VR S K' R' u v := by
 induction x with
 | bool b => exact .bool b
 | int k n => exact .int k n
 | string s => exact .string s
 | nilFunc => exact .nilFunc
 | nilIface => exact .nilIface
 | pointer _ => cases hu
 | slice _ => cases hu
 | map _ => cases hu
 | chan _ => cases hu
 | func _ _ _ _ _ _ _ => cases hu
 | iface _ _ => cases hu
 | agg e _ ih => cases hu with | agg h => exact .agg e λ i v v' h1 h2 => ih i v v' h1 h2 (h i v h1)
 | tuple e _ ih => cases hu with | tuple h => exact .tuple e λ i v v' h1 h2 => ih i v v' h1 h2 (h i v h1)
 | junk h => exact .junk h
def srcOk (w : World) (A : Option Addr) : Option Blk -> Prop
 | none => A = none
 | some b => A = some ⟨b.rb, b.off, none⟩ /\ w.heap[b.rb]? = some (.cells b.cs b.T b.fz) /\ ∀ v ∈ b.cs, Uni v
def frz (w : World) : Option Blk -> World
 | none => w
 | some b => put w b.rb (.cells b.cs b.T (0, max b.cs.size b.fz.2))
def thaw (w : World) : Option Blk -> World
 | none => w
 | some b => put w b.rb (.cells b.cs b.T b.fz)
def StF (St : Nat -> Prop) (src : Option Blk) (a : Nat) : Prop := St a \/ ∃ b, src = some b /\ a = b.rb
theorem frz_size (w : World) (src : Option Blk) : (frz w src).heap.size = w.heap.size := by cases src <;> simp [frz, put_size]
theorem thaw_size (w : World) (src : Option Blk) : (thaw w src).heap.size = w.heap.size := by cases src <;> simp [thaw, put_size]
section
variable {S : FuncId -> Prop} {K R : Pr} {G : Nat} {St : Nat -> Prop} {w W W4 : World} {A : Option Addr} {src : Option Blk}
theorem src_real (h : WRel S K R G St w W) {b : Blk} {b' : Nat} (hb : w.heap[b.rb]? = some (.cells b.cs b.T b.fz)) (hp : ∀ v ∈ b.cs, Uni v) (hR : R b.rb b') : ∃ c' fz', W.heap[b']? = some (.cells c' b.T fz') /\ (∀ K' R', ArR S K' R' b.cs c') /\ ∀ o, inFz fz' o -> inFz b.fz o := by
 obtain ⟨o, o', h1, h2, h3⟩ := h.cont _ _ hR
 rw [hb] at h1
 obtain rfl := Option.some.inj h1
 cases h3 with
 | cells hc hf =>
   rename_i c' fz'
   exact ⟨c', fz', h2, λ K' R' => ⟨hc.1, λ i v v' h1 h2 => Uni.vr (hc.2 i v v' h1 h2) (hp v (Array.mem_of_getElem? h1))⟩, hf⟩
theorem frz_rel (h : WRel S K R G St w W) (hs : srcOk w A src) (hR : ∀ b, src = some b -> ∃ b', R b.rb b') : WRel S K R G (StF St src) (frz w src) W := by
 cases src with
 | none => exact WRel.subSt (St' := StF St none) h λ a x => x.resolve_right λ ⟨b, e, _⟩ => by cases e
 | some b =>
   obtain ⟨b', hb'⟩ := hR b rfl
   obtain ⟨_, h2, h3⟩ := hs
   obtain ⟨c', fz', h4, hcc, h5⟩ := src_real h h2 h3 hb'
   refine WRel.put h hb' h4 (.cells (hcc _ _) λ o ho => ?_) (λ a x e => ?_) (λ _ => ⟨b.cs, b.T, _, rfl, Nat.le_max_left ..⟩)
   . have := h5 o ho
     unfold inFz at this ⊢
     simp only
     omega
   . exact x.resolve_right λ ⟨b0, e1, e2⟩ => e (by cases e1; exact e2)
theorem thaw_rel {R' K' : Pr} {wn Wn : World} (h : WRel S K R G St w W) (hs : srcOk w A src) (hle : R.le R') (hn : WRel S K' R' G (StF St src) wn Wn) (hst : ∀ b b', src = some b -> R b.rb b' -> Wn.heap[b']? = W.heap[b']?) (hR : ∀ b, src = some b -> ∃ b', R b.rb b') : WRel S K' R' G St (thaw wn src) Wn := by
 cases src with
 | none => exact WRel.subSt hn λ a x => .inl x
 | some b =>
   obtain ⟨b', hb'⟩ := hR b rfl
   obtain ⟨_, h2, h3⟩ := hs
   obtain ⟨c', fz', h4, hcc, h5⟩ := src_real h h2 h3 hb'
   refine WRel.put hn (hle _ _ hb') ((hst b b' rfl hb').trans h4) (.cells (hcc _ _) h5) (λ a x e => .inl x) (λ x => ?_)
   obtain ⟨_, c, T, hi, h6, h7⟩ := h.st b.rb x
   rw [h2] at h6
   simp only [Option.some.injEq, Obj.cells.injEq] at h6
   obtain ⟨rfl, rfl, h8⟩ := h6
   exact ⟨b.cs, b.T, hi, by rw [h8], h7⟩
def ghostM (w : World) (src : Option Blk) (Tc : TypeId) : World := ((frz w src).alloc waste).alloc (.cells #[.chan (some w.heap.size)] Tc (0, 1))
def stM (St : Nat -> Prop) (src : Option Blk) (w : World) (a : Nat) : Prop := StF St src a \/ a = w.heap.size + 1
theorem main_rel (h : WRel S K R G St w W) (hs : srcOk w A src) (hR : ∀ b, src = some b -> ∃ b', R b.rb b') {N1 N2 : Nat} {Tc : TypeId} (h1 : W.heap.size <= N1) (h2 : W.heap.size <= N2) (h12 : N1 ≠ N2) (hk : ∀ a b, R a b -> W4.heap[b]? = W.heap[b]?) (hs1 : N1 < W4.heap.size) (hN2 : W4.heap[N2]? = some (.cells #[.chan (some N1)] Tc (0, 0))) :
   WRel S (K.add w.heap.size N1) (R.add (w.heap.size + 1) N2) G (stM St src w) (ghostM w src Tc) W4 := by
 have hsz : W.heap.size <= W4.heap.size := by omega
 have hlt : ∀ a b, (R.or K) a b -> b < W.heap.size := λ a b x => (h.lt a b x).2
 have r1 := frz_rel h hs hR
 have r2 := WRel.real (W' := W4) r1 hk hsz
 have r3 := WRel.pushK r2 hs1 (λ a x => by have := hlt a _ x; omega)
 rw [frz_size] at r3
 have e1 : ((frz w src).alloc waste).heap.size = w.heap.size + 1 := by rw [size_push, frz_size]
 have r4 := WRel.pushR (St' := stM St src w) r3 (N := N2) (o := .cells #[.chan (some w.heap.size)] Tc (0, 1)) (by have := h.gle.2; omega) (λ a x => ?_) hN2 ?_ (λ a x e => ?_) (λ _ => ⟨_, _, 1, rfl, by simp⟩)
 . rw [e1] at r4; exact r4
 . rcases x with x | x | ⟨_, e⟩
   . have := hlt a _ (.inl x); omega
   . have := hlt a _ (.inr x); omega
   . exact h12 e.symm
 . refine .cells (ArR.one (.chan (.some (.inr (.inr ⟨rfl, rfl⟩))))) λ o ho => ?_
   unfold inFz at ho; simp only at ho; omega
 . rw [e1] at e
   exact x.resolve_right e
abbrev P0 : Pr := λ _ _ => False
theorem WRel.none (h : WRel S K R G St w W) : WRel S P0 P0 G (λ _ => False) w W := by
 refine ⟨?_, ?_, ?_, ?_, h.gle, ?_, ?_, ?_, h.np⟩ <;> (intros; simp_all [Pr.or, P0])
def ghostC (w : World) (src : Option Blk) (Tc Ts : TypeId) (n cap : Nat) : World :=
 match src with
 | none => ((w.alloc waste).alloc (.cells #[.chan (some w.heap.size)] Tc (0, 1))).alloc (.cells #[.slice none n cap] Ts (0, 1))
 | some b => (((w.alloc waste).alloc (.cells #[.chan (some w.heap.size)] Tc (0, 1))).alloc (.cells b.cs b.T (0, max b.cs.size b.fz.2))).alloc (.cells #[.slice (some ⟨w.heap.size + 2, b.off, none⟩) n cap] Ts (0, 1))
def sliceC (w : World) (src : Option Blk) : Option Addr := src.map λ b => ⟨w.heap.size + 2, b.off, none⟩
def numC (w : World) (src : Option Blk) : Nat := match src with | none => w.heap.size + 2 | some _ => w.heap.size + 3
def relC (w : World) (src : Option Blk) (b' N0 N2 : Nat) : Pr :=
 match src with
 | none => (P0.add (w.heap.size + 1) N2).add (w.heap.size + 2) N0
 | some _ => ((P0.add (w.heap.size + 1) N2).add (w.heap.size + 2) b').add (w.heap.size + 3) N0
theorem child_rel (h : WRel S K R G St w W) (hs : srcOk w A src) {b' : Nat} (hR : ∀ b, src = some b -> R b.rb b') (hlo : ∀ b, src = some b -> G <= b.rb) {N0 N1 N2 n cap : Nat} {A' : Option Addr} {Tc Ts : TypeId} (hA : OaR R A A') (h0 : N0 = W.heap.size) (h1 : N1 = W.heap.size + 1) (h2 : N2 = W.heap.size + 2) (hk : ∀ a b, R a b -> W4.heap[b]? = W.heap[b]?) (hs1 : N1 < W4.heap.size)
   (hN2 : W4.heap[N2]? = some (.cells #[.chan (some N1)] Tc (0, 0))) (hN0 : W4.heap[N0]? = some (.cells #[.slice A' n cap] Ts (0, 0))) :
   ∃ St', WRel S (P0.add w.heap.size N1) (relC w src b' N0 N2) G St' (ghostC w src Tc Ts n cap) W4 /\ ∀ a b, relC w src b' N0 N2 a b -> St' a := by
 have hsz : W.heap.size <= W4.heap.size := by omega
 have hgle := h.gle
 have r2 := WRel.real (W' := W4) (WRel.none h) (λ a b x => x.elim) hsz
 have r3 := WRel.pushK r2 hs1 (λ a x => x.elim id id)
 have e1 : (w.alloc waste).heap.size = w.heap.size + 1 := size_push _ _
 have r4 := WRel.pushR (St' := λ a => a = w.heap.size + 1) r3 (N := N2) (o := .cells #[.chan (some w.heap.size)] Tc (0, 1)) (by omega) (λ a x => ?_) hN2 ?_ (λ a x e => ?_) (λ _ => ⟨_, _, 1, rfl, by simp⟩)
 rotate_left
 . rcases x with x | x | ⟨_, e⟩
   . exact x
   . exact x
   . omega
 . refine .cells (ArR.one (.chan (.some (.inr (.inr ⟨rfl, rfl⟩))))) λ o ho => ?_
   unfold inFz at ho; simp only at ho; omega
 . rw [e1] at e; exact absurd x e
 rw [e1] at r4
 have e2 : ((w.alloc waste).alloc (.cells #[.chan (some w.heap.size)] Tc (0, 1))).heap.size = w.heap.size + 2 := by rw [size_push, e1]
 cases src with
 | none =>
   refine ⟨λ a => a = w.heap.size + 1 \/ a = w.heap.size + 2, ?_, ?_⟩
   . obtain rfl : A = Option.none := hs
     cases hA
     have r5 := WRel.pushR (St' := λ a => a = w.heap.size + 1 \/ a = w.heap.size + 2) r4 (N := N0) (o := .cells #[.slice .none n cap] Ts (0, 1)) (by omega) (λ a x => ?_) hN0 ?_ (λ a x e => ?_) (λ _ => ⟨_, _, 1, rfl, by simp⟩)
     . rw [e2] at r5; exact r5
     . rcases x with (x | ⟨_, e⟩) | x | ⟨_, e⟩
       . exact x
       . omega
       . exact x
       . omega
     . refine .cells (ArR.one (.slice .none)) λ o ho => ?_
       unfold inFz at ho; simp only at ho; omega
     . rw [e2] at e; exact x.resolve_right e
   . rintro a b ((x | ⟨rfl, _⟩) | ⟨rfl, _⟩)
     . exact x.elim
     . exact .inl rfl
     . exact .inr rfl
 | some b =>
   obtain ⟨rfl, hb2, hb3⟩ := hs
   have hRb := hR b rfl
   obtain ⟨c', fz', h4, hcc, h5⟩ := src_real h hb2 hb3 hRb
   have hblt := (h.ltR _ _ hRb).2
   have hlow := (h.low _ _ hRb).1
   have hA' : A' = Option.some ⟨b', b.off, Option.none⟩ := by
     cases hA with
     | some x => cases x with | mk x => rw [h.inj _ _ _ (.inl x) (.inl hRb)]
   subst hA'
   have hG : G <= b' := by have := hlo b rfl; omega
   refine ⟨λ a => a = w.heap.size + 1 \/ a = w.heap.size + 2 \/ a = w.heap.size + 3, ?_, ?_⟩
   . have r5 := WRel.pushR (St' := λ a => a = w.heap.size + 1 \/ a = w.heap.size + 2) r4 (N := b') (o := .cells b.cs b.T (0, max b.cs.size b.fz.2)) hG (λ a x => ?_) ((hk _ _ hRb).trans h4) (.cells (hcc _ _) λ o ho => ?_) (λ a x e => ?_) (λ _ => ⟨_, _, _, rfl, Nat.le_max_left ..⟩)
     rotate_left
     . rcases x with (x | ⟨_, e⟩) | x | ⟨_, e⟩
       . exact x
       . omega
       . exact x
       . omega
     . have := h5 o ho
       unfold inFz at this ⊢
       simp only
       omega
     . rw [e2] at e; exact x.resolve_right e
     rw [e2] at r5
     have e3 : (((w.alloc waste).alloc (.cells #[.chan (some w.heap.size)] Tc (0, 1))).alloc (.cells b.cs b.T (0, max b.cs.size b.fz.2))).heap.size = w.heap.size + 3 := by rw [size_push, e2]
     have r6 := WRel.pushR (St' := λ a => a = w.heap.size + 1 \/ a = w.heap.size + 2 \/ a = w.heap.size + 3) r5 (N := N0) (o := .cells #[.slice (some ⟨w.heap.size + 2, b.off, Option.none⟩) n cap] Ts (0, 1)) (by omega) (λ a x => ?_) hN0 ?_ (λ a x e => ?_) (λ _ => ⟨_, _, 1, rfl, by simp⟩)
     . rw [e3] at r6; exact r6
     . rcases x with ((x | ⟨_, e⟩) | ⟨_, e⟩) | x | ⟨_, e⟩
       . exact x
       . omega
       . omega
       . exact x
       . omega
     . refine .cells (ArR.one (.slice (.some (.mk (.inl (.inr ⟨rfl, rfl⟩)))))) λ o ho => ?_
       unfold inFz at ho; simp only at ho; omega
     . rw [e3] at e
       rcases x with x | x | x
       . exact .inl x
       . exact .inr x
       . exact absurd x e
   . rintro a c (((x | ⟨rfl, _⟩) | ⟨rfl, _⟩) | ⟨rfl, _⟩)
     . exact x.elim
     . exact .inl rfl
     . exact .inr (.inl rfl)
     . exact .inr (.inr rfl)
end
section
variable {L : Type} {C : Cx L} {W0 : World} {St : Nat -> Prop} {Shun : Loc -> Prop} {SS : Nat -> Prop}
structure IMX (W0 : World) (St : Nat -> Prop) (Shun : Loc -> Prop) (Wg : Nat) (SS : Nat -> Prop) (R0 : Pr) (Fz : Nat -> Prop) (Wf : World) (R : Pr) (τ : Terr) (W : World) : Prop where
 im : IM W0 St Shun Wg SS R τ W
 le : R0.le R
 fz : ∀ b, Fz b -> b < W.heap.size /\ W.heap[b]? = Wf.heap[b]? /\ ¬ τ.own b /\ b ≠ Wg
structure IX (ty : TypeId) (Wg : Nat) (I : Pr -> Terr -> World -> Prop) : Prop where
 suf : ∀ R τ W W₁, I R τ W -> Suf ty Wg τ W W₁ -> I R τ W₁
 cell : ∀ R τ W a v, I R τ W -> a.block = Wg -> I R τ (W.setCell a v)
 at_ : ∀ R τ W d, I R τ W -> I R τ (W.at d)
 rel : ∀ R τ W, I R τ W -> ∀ a b, R a b -> b ≠ Wg
def withLive (ty : TypeId) (Wg : Nat) (I : Pr -> Terr -> World -> Prop) : Pr -> Terr -> World -> Prop := λ R τ W => I R τ W /\ WgLive ty Wg W
theorem imx_ix {ty : TypeId} {W0 : World} {St : Nat -> Prop} {Shun : Loc -> Prop} {Wg : Nat} {SS : Nat -> Prop} {R0 : Pr} {Fz : Nat -> Prop} {Wf : World} (hSS : ∀ b, b < W0.heap.size -> SS b) (hF : ∀ b, Fz b -> SS b) (hlow : W0.heap.size <= Wg) : IX ty Wg (IMX W0 St Shun Wg SS R0 Fz Wf) := by
 refine ⟨λ R τ W W₁ h s => ?_, λ R τ W a v h ha => ?_, λ R τ W d h => ?_, λ R τ W h => h.im.rel⟩
 . have h0 : IOk (L := Unit) ⟨default, λ _ => false, λ _ => false, ty, Wg, ⟨λ _ => .wait, λ _ _ => True, λ _ => false, λ _ => True, λ _ _ => True⟩, λ _ _ => True, true, [], .nil, λ _ _ => False, λ _ => True, IM W0 St Shun Wg SS, []⟩ := im_ok rfl (λ _ _ => trivial) hSS
   refine ⟨h0.suf R τ W W₁ h.im s, h.le, λ b hb => ?_⟩
   obtain ⟨f1, f2, f3, f4⟩ := h.fz b hb
   exact ⟨Nat.lt_of_lt_of_le f1 s.size, (s.keep b (.inr (by rw [h.im.still]; exact hF b hb))).trans f2, f3, f4⟩
 . refine ⟨IM.cell h.im hlow ha v, h.le, λ b hb => ?_⟩
   obtain ⟨f1, f2, f3, f4⟩ := h.fz b hb
   exact ⟨by rw [setCell_size]; exact f1, (setCell_ne W a v (by rw [ha]; exact f4)).trans f2, f3, f4⟩
 . exact ⟨⟨⟨h.im.kp.os, h.im.kp.tape, h.im.kp.output, h.im.kp.size, h.im.kp.block, h.im.kp.old⟩, ⟨h.im.sh.old, h.im.sh.rel, h.im.sh.new⟩, h.im.still, h.im.wg, h.im.own, h.im.rel⟩, h.le, h.fz⟩
theorem imx_ok {R0 : Pr} {Fz : Nat -> Prop} {Wf : World} (hC : C.I = withLive C.ty C.Wg (IMX W0 St Shun C.Wg SS R0 Fz Wf)) (hst : ∀ a, St a -> C.St a) (hSS : ∀ b, b < W0.heap.size -> SS b) (hF : ∀ b, Fz b -> SS b) (hlow : W0.heap.size <= C.Wg) : IOk C := by
 have h0 : IOk { C with I := IM W0 St Shun C.Wg SS } := im_ok (C := { C with I := IM W0 St Shun C.Wg SS }) rfl hst hSS
 have hx := imx_ix (ty := C.ty) (St := St) (Shun := Shun) (R0 := R0) (Wf := Wf) hSS hF hlow
 refine ⟨λ R τ W W₁ h s => ?_, λ R τ W R1 W1 h ht hs => ?_, λ R τ W h => ?_⟩ <;> rw [hC] at *
 . exact ⟨hx.suf R τ W W₁ h.1 s, s.live h.2⟩
 . refine ⟨⟨h0.step R τ W R1 W1 h.1.im ht hs, h.1.le.trans hs.le, λ b hb => ?_⟩, ?_⟩
   . obtain ⟨f1, f2, f3, f4⟩ := h.1.fz b hb
     refine ⟨Nat.lt_of_lt_of_le f1 hs.size, (hs.keep b f1 λ a x => Classical.byContradiction λ z => f3 ((ht a _ x).2 z)).trans f2, λ e => e.elim f3 λ x => ?_, f4⟩
     omega
   . obtain ⟨a, b, hl⟩ := h.2
     exact ⟨a, b, (hs.keep C.Wg h.1.im.wg λ a x => Classical.byContradiction λ z => h.1.im.own _ ((ht a _ x).2 z) rfl).trans hl⟩
 . exact h0.wg R τ W h.1.im
end
end Go.Mt
namespace Go.Mt
open Go.Conc Go.Tt
section
variable {p : Program} {op gs gs₁ fs : FuncId -> Bool} {St : Nat -> Prop} {W0 : World} {Post : Value -> World -> Prop}
theorem JO.callN (L : Lv p op gs gs₁ fs) {m : Fm} {ms : List Fm} {w : World} {ops : Array Oper} {i : Nat} {rest : List Nat} {k : List Item} {o : Oper} {f : FuncId} {args : Array Operand} {ats : Array TypeId} {fn : Func} {c : Code} (hr : m.ret = false) (htd : m.todo = .inRegion ops (i :: rest) :: k)
   (ho : ops[i]? = some o) (hwt : Region.wanted o (yielded ops m.tmps) = true) (hop : o.op = .call ⟨.value (.func f), args, ats⟩) (hof : op f = false) (hf : p.funcs[f]? = some fn) (hn : (fn.name == "runtime.NumGoroutine") = false) (hb : fn.body = some c)
   (hJ : JL p op gs fs St W0 Post ⟨f, args.map m.eval ++ Array.replicate (fn.ntmps - (args.map m.eval).size) undef, [.code c], false⟩ (m :: ms) w) : JL p op gs fs St W0 Post m ms w := by
 have hent : entF p f (args.map m.eval) = ⟨f, args.map m.eval ++ Array.replicate (fn.ntmps - (args.map m.eval).size) undef, [.code c], false⟩ := by simp [entF, hf, hb]
 rw [<- hent] at hJ
 refine JO.one L.fit rfl (λ e => by rw [hr] at e; cases e) (λ T => ((entF p f (args.map m.eval), m :: ms), Tt.tp w T 0)) (λ T => ?_) (λ T K R y hoo => ?_) (λ T => hJ.tape T 0)
 . show (stepS p m ms).run p _ = _
   simp only [stepS, hr, Bool.false_eq_true, if_false, runS, htd, ho, Option.map_some, Option.getD_some, hwt, if_true]
   refine (Sem.run_bind' p _ _ _).trans ?_
   rw [(exec_call hop (λ g => rfl) hf hn hb (Tt.tp w T 0)).1]
   simp only [Result.andThen, opS, hf, hb, Pure.pure, Sem.run, hent]
 . obtain ⟨f', xs, xs', c, c', rest, rest', h1, h2, h3, h4, _⟩ := hoo.ex
   simp only [Prod.mk.injEq] at h4
   have h5 := congrArg Fm.fn h4.1
   rw [entF_fn, entF_fn] at h5
   have h6 : op f' = true := h1
   rw [<- h5, hof] at h6; cases h6
end
def gBase (W : World) : World := { W with heap := Array.replicate W.heap.size waste }
def gStart (W : World) : Option Blk -> World
 | none => gBase W
 | some b => put (gBase W) b.rb (.cells b.cs b.T (0, max b.cs.size b.fz.2))
def R0 (src : Option Blk) : Pr := λ a b => ∃ s, src = some s /\ a = s.rb /\ b = s.rb
def St0 (src : Option Blk) : Nat -> Prop := λ a => ∃ s, src = some s /\ a = s.rb
theorem gStart_size (W : World) (src : Option Blk) : (gStart W src).heap.size = W.heap.size := by cases src <;> simp [gStart, gBase, put_size]
theorem gStart_at {W : World} {b : Blk} (h : b.rb < W.heap.size) : (gStart W (some b)).heap[b.rb]? = some (.cells b.cs b.T (0, max b.cs.size b.fz.2)) := by
 unfold gStart; rw [put_same (by simp [gBase, h])]
theorem gBase_np (W : World) : NoPend (gBase W) := by
 intro b c e h
 simp only [gBase, Array.getElem?_replicate] at h
 split at h
 . cases h
 . cases h
theorem ghostu {S : FuncId -> Prop} : ∀ (n : Nat) (v : Value), SizeOf.sizeOf v < n -> ∃ u, Uni u /\ (∀ K R, VR S K R u v) /\ (plainV v -> u = v) := by
 intro n
 induction n with
 | zero => intro v h; omega
 | succ n ih =>
   intro v hv
   have hj : ∀ {v : Value}, Hid v -> (∀ k m, v ≠ .int k m) -> (∀ s, v ≠ .string s) -> (∀ b, v ≠ .bool b) -> ∃ u, Uni u /\ (∀ K R, VR S K R u v) /\ (plainV v -> u = v) := λ h h1 h2 h3 =>
     ⟨.nilFunc, .nilFunc, λ K R => .junk h, λ x => by
       rcases x with ⟨k, m, e⟩ | ⟨s, e⟩ | ⟨b, e⟩
       . exact absurd e (h1 _ _)
       . exact absurd e (h2 _)
       . exact absurd e (h3 _)⟩
   have rows : ∀ xs : Array Value, SizeOf.sizeOf xs < n -> ∃ us : Array Value, us.size = xs.size /\ (∀ (i : Nat) (u : Value), us[i]? = some u -> Uni u) /\ ∀ K R, ∀ (i : Nat) (u v : Value), us[i]? = some u -> xs[i]? = some v -> VR S K R u v := λ xs hx => by
     have hex : ∀ x, ∃ u, x ∈ xs -> Uni u /\ ∀ K R, VR S K R u x := λ x => by
       by_cases hm : x ∈ xs
       . obtain ⟨u, h1, h2, _⟩ := ih x (Nat.lt_trans (Array.sizeOf_lt_of_mem hm) hx)
         exact ⟨u, λ _ => ⟨h1, h2⟩⟩
       . exact ⟨x, λ h => absurd h hm⟩
     refine ⟨xs.map λ x => (hex x).choose, by simp, λ i u h1 => ?_, λ K R i u v h1 h2 => ?_⟩
     . rw [Array.getElem?_map] at h1
       cases h2 : xs[i]? with
       | none => rw [h2] at h1; cases h1
       | some v =>
         rw [h2] at h1
         simp only [Option.map_some, Option.some.injEq] at h1
         subst h1
         exact ((hex v).choose_spec (Array.mem_of_getElem? h2)).1
     . rw [Array.getElem?_map, h2] at h1
       simp only [Option.map_some, Option.some.injEq] at h1
       subst h1
       exact ((hex v).choose_spec (Array.mem_of_getElem? h2)).2 K R
   cases v with
   | bool b => exact ⟨_, .bool b, λ K R => .bool b, λ _ => rfl⟩
   | int k m => exact ⟨_, .int k m, λ K R => .int k m, λ _ => rfl⟩
   | string s => exact ⟨_, .string s, λ K R => .string s, λ _ => rfl⟩
   | nilIface => exact ⟨_, .nilIface, λ K R => .nilIface, λ _ => rfl⟩
   | agg xs =>
     obtain ⟨us, h1, h3, h2⟩ := rows xs (by simp at hv; omega)
     exact ⟨.agg us, .agg h3, λ K R => .agg h1 (h2 K R), λ x => by rcases x with ⟨_, _, e⟩ | ⟨_, e⟩ | ⟨_, e⟩ <;> cases e⟩
   | tuple xs =>
     obtain ⟨us, h1, h3, h2⟩ := rows xs (by simp at hv; omega)
     exact ⟨.tuple us, .tuple h3, λ K R => .tuple h1 (h2 K R), λ x => by rcases x with ⟨_, _, e⟩ | ⟨_, e⟩ | ⟨_, e⟩ <;> cases e⟩
   | _ => exact hj (by exact True.intro) (λ _ _ h => by cases h) (λ _ h => by cases h) (λ _ h => by cases h)
theorem ghostv {S : FuncId -> Prop} {K R : Pr} (n : Nat) (v : Value) (h : SizeOf.sizeOf v < n) : ∃ u, VR S K R u v /\ (plainV v -> u = v) :=
 let ⟨u, _, h2, h3⟩ := ghostu (S := S) n v h
 ⟨u, h2 K R, h3⟩
theorem start_rel {S : FuncId -> Prop} {G : Nat} {W : World} {src : Option Blk} (hs : ∀ b, src = some b -> ∃ c', W.heap[b.rb]? = some (.cells c' b.T b.fz) /\ ArR S P0 (R0 src) b.cs c') (hG : G <= W.heap.size) : WRel S P0 (R0 src) G (St0 src) (gStart W src) W := by
 refine ⟨?_, ?_, ?_, ?_, ⟨by rw [gStart_size]; exact hG, hG⟩, ?_, λ a b x => x.elim, ?_, ?_⟩
 . rintro a b c (⟨s, e, rfl, rfl⟩ | x) (⟨s', e', h1, rfl⟩ | y)
   . exact h1
   . exact y.elim
   . exact x.elim
   . exact x.elim
 . rintro a b c (⟨s, e, rfl, h0⟩ | x) (⟨s', e', rfl, h1⟩ | y)
   . exact h0.symm.trans h1
   . exact y.elim
   . exact x.elim
   . exact x.elim
 . rintro a b (⟨s, e, rfl, rfl⟩ | x)
   . obtain ⟨c', h1, _⟩ := hs s e
     have := (Array.getElem?_eq_some_iff.1 h1).1
     exact ⟨by rw [gStart_size]; exact this, this⟩
   . exact x.elim
 . rintro a b ⟨s, e, rfl, rfl⟩
   exact ⟨Iff.rfl, λ _ => rfl⟩
 . rintro a b ⟨s, e, rfl, rfl⟩
   subst e
   obtain ⟨c', h1, h2⟩ := hs s rfl
   refine ⟨_, _, gStart_at (Array.getElem?_eq_some_iff.1 h1).1, h1, .cells h2 λ o ho => ?_⟩
   unfold inFz at ho ⊢
   simp only
   omega
 . rintro a ⟨s, e, rfl⟩
   subst e
   obtain ⟨c', h1, _⟩ := hs s rfl
   exact ⟨⟨s.rb, s, rfl, rfl, rfl⟩, s.cs, s.T, _, gStart_at (Array.getElem?_eq_some_iff.1 h1).1, Nat.le_max_left ..⟩
 . cases src with
   | none => exact gBase_np W
   | some b =>
     intro x c e h
     by_cases hx : b.rb = x
     . subst hx
       obtain ⟨c', h1, _⟩ := hs b rfl
       rw [gStart_at (Array.getElem?_eq_some_iff.1 h1).1] at h
       cases h
     . unfold gStart at h
       rw [put_ne hx] at h
       exact gBase_np W x c e h
theorem start_src {S : FuncId -> Prop} {W : World} {A : Option Addr} (hA : ∀ a, A = some a -> a.spot = none /\ ∃ c T fz, W.heap[a.block]? = some (.cells c T fz)) :
   ∃ src, OaR (R0 src) A A /\ (∀ b, src = some b -> ∃ c', W.heap[b.rb]? = some (.cells c' b.T b.fz) /\ ArR S P0 (R0 src) b.cs c') /\
     ∀ a, A = some a -> ∀ o v, W.cell? ⟨a.block, o, none⟩ = some v -> plainV v -> (gStart W src).cell? ⟨a.block, o, none⟩ = some v := by
 cases A with
 | none => exact ⟨none, .none, λ b e => (by cases e), λ a e => by cases e⟩
 | some a =>
   obtain ⟨hsp, c, T, fz, hb⟩ := hA a rfl
   let g : Value -> Value := λ v => (ghostv (S := S) (K := P0) (R := λ x y => x = a.block /\ y = a.block) (SizeOf.sizeOf v + 1) v (Nat.lt_succ_self _)).choose
   have hg : ∀ v, VR S P0 (λ x y => x = a.block /\ y = a.block) (g v) v /\ (plainV v -> g v = v) := λ v => (ghostv (S := S) (K := P0) (R := λ x y => x = a.block /\ y = a.block) (SizeOf.sizeOf v + 1) v (Nat.lt_succ_self _)).choose_spec
   refine ⟨some ⟨a.block, a.off, c.map g, T, fz⟩, ?_, λ b e => ?_, λ a' e o v hv hp => ?_⟩
   . obtain ⟨bl, of, sp⟩ := a
     exact .some (.mk ⟨_, rfl, rfl, rfl⟩)
   . cases e
     refine ⟨c, hb, by simp, λ i u v h1 h2 => ?_⟩
     have h1' : (c.map g)[i]? = some u := h1
     rw [Array.getElem?_map, h2] at h1'
     simp only [Option.map_some, Option.some.injEq] at h1'
     subst h1'
     exact (hg v).1.mono λ x y h => ⟨_, rfl, h.1, h.2⟩
   . cases e
     have hlt := (Array.getElem?_eq_some_iff.1 hb).1
     have h1 := gStart_at (W := W) (b := ⟨a.block, a.off, c.map g, T, fz⟩) hlt
     have h2 : c[o]? = some v := by
       have : W.cell? ⟨a.block, o, none⟩ = c[o]? := by simp [World.cell?, hb]
       rw [<- this]; exact hv
     have h3 : (gStart W (some ⟨a.block, a.off, c.map g, T, fz⟩)).cell? ⟨a.block, o, none⟩ = (c.map g)[o]? := by
       simp only [World.cell?]
       have h1' : (gStart W (some ⟨a.block, a.off, c.map g, T, fz⟩)).heap[a.block]? = _ := h1
       rw [h1']; rfl
     rw [h3, Array.getElem?_map, h2]
     simp only [Option.map_some, Option.some.injEq]
     exact (hg v).2 hp
theorem past_start {Shun : Loc -> Prop} {B : Nat} : Past Shun B #[] :=
 ⟨past_nil.clean, λ i a h => by simp [touchAt, Trace.act?] at h, past_nil.over, past_nil.hears, λ op h => by simp at h⟩
theorem J.start {p : Program} {op gs gs₁ fs : FuncId -> Bool} {Post : Value -> World -> Prop} (L : Lv p op gs gs₁ fs) {f : FuncId} {fn : Func} {c : Code} (hg : gs f = true) (hof : op f = false) (hf : p.funcs[f]? = some fn) (hb : fn.body = some c) {W : World} {src : Option Blk} {xs args : Array Value}
   (hs : ∀ b, src = some b -> ∃ c', W.heap[b.rb]? = some (.cells c' b.T b.fz) /\ ArR (SF fs) P0 (R0 src) b.cs c') (hG : p.globals.size <= W.heap.size) (hxs : ArR (SF fs) P0 (R0 src) xs args)
   (h : JL p op gs fs (St0 src) W Post ⟨f, xs ++ Array.replicate (fn.ntmps - xs.size) undef, [.code c], false⟩ [] (gStart W src)) : Ends p Post (solo (G (Frame.enter p f args .normal) []) W) #[] := by
 obtain ⟨fn', c', g1, g2, g3, g4, g5⟩ := L.fit.fn f hg hof
 have g2' : p.funcs[f]? = some fn' := g2
 rw [hf] at g2'
 obtain rfl := Option.some.inj g2'
 rw [hb] at g4
 obtain rfl := Option.some.inj g4
 have hJ : J p Post (λ _ => False) W.heap.size (G (Frame.enter p f args .normal) []) W := by
   rw [enter_fr hf hb]
   refine h P0 (R0 src) W ⟨f, args ++ Array.replicate (fn.ntmps - args.size) undef, [.code c], false⟩ [] (λ _ => False) (start_rel hs hG) ⟨rfl, rfl, rfl, hxs.pad fn.ntmps, λ j hj => ?_, ⟨fn, fn, hf, hf, rfl, L.fit.res f hg hof fn hf⟩⟩ .nil ⟨λ _ _ _ _ => id, λ _ _ _ _ _ => id, λ _ _ _ _ => id⟩ ⟨rfl, rfl, rfl, Nat.le_refl _, λ _ _ => rfl, ?_⟩
   . simp only [List.mem_cons, List.not_mem_nil, or_false] at hj
     subst hj; exact g5
   . rintro a b ⟨s, e, rfl, rfl⟩ _
     exact ⟨s, e, rfl⟩
 rw [solo_eq_crowd]
 exact hJ #[_] #[] none (λ _ => 0) rfl ⟨λ i g hi h => by
   have := (Array.getElem?_eq_some_iff.1 h).1
   simp at this; omega, λ j _ => rfl⟩ past_start
end Go.Mt
namespace Go.Mt
open Go.Conc Go.Tt
def ordOk (ops : Array Oper) : Bool :=
 ((List.range ops.size).all λ i => match ops[i]? with
   | some oi => (oi.after.all λ e => !Region.binds .any e || decide (e.on < i)) && (match oi.op with | .select .. => false | _ => true) &&
     ((List.range ops.size).all λ j => match ops[j]? with
       | some oj => (match oj.dst with
         | some d => (!(oi.looksAt ops).contains d || oi.after.any λ e => Region.binds .any e && e.on == j) && (i == j || oi.dst != some d)
         | none => true)
       | none => true)
   | none => true)
structure OrdOk (ops : Array Oper) : Prop where
 bk : ∀ (i : Nat) (oi : Oper), ops[i]? = some oi -> ∀ e ∈ oi.after, Region.binds .any e = true -> e.on < i
 sel : ∀ (i : Nat) (oi : Oper), ops[i]? = some oi -> ∀ cs b, oi.op ≠ .select cs b
 rd : ∀ (i j : Nat) (oi oj : Oper) (d : Tmp), ops[i]? = some oi -> ops[j]? = some oj -> oj.dst = some d -> d ∈ oi.looksAt ops -> ∃ e ∈ oi.after, Region.binds .any e = true /\ e.on = j
 dst : ∀ (i j : Nat) (oi oj : Oper) (d : Tmp), ops[i]? = some oi -> ops[j]? = some oj -> oi.dst = some d -> oj.dst = some d -> i = j
theorem ordOk_ok {ops : Array Oper} (h : ordOk ops = true) : OrdOk ops := by
 unfold ordOk at h
 rw [List.all_eq_true] at h
 have lt : ∀ {i : Nat} {oi : Oper}, ops[i]? = some oi -> i < ops.size := λ h => (Array.getElem?_eq_some_iff.1 h).1
 have h1 : ∀ (i : Nat) (oi : Oper), ops[i]? = some oi -> (oi.after.all λ e => !Region.binds .any e || decide (e.on < i)) = true /\ (match oi.op with | .select .. => false | _ => true) = true /\
     ∀ (j : Nat) (oj : Oper), ops[j]? = some oj -> ∀ d, oj.dst = some d -> ((oi.looksAt ops).contains d = false \/ (oi.after.any λ e => Region.binds .any e && e.on == j) = true) /\ (i = j \/ oi.dst ≠ some d) := by
   intro i oi hi
   have := h i (List.mem_range.2 (lt hi))
   rw [hi] at this
   simp only [Bool.and_eq_true] at this
   refine ⟨this.1.1, this.1.2, λ j oj hj d hd => ?_⟩
   have h2 := (List.all_eq_true.1 this.2) j (List.mem_range.2 (lt hj))
   rw [hj] at h2
   simp only [hd, Bool.and_eq_true, Bool.or_eq_true, Bool.not_eq_true', beq_iff_eq, bne_iff_ne] at h2
   exact h2
 refine ⟨λ i oi hi e he hb => ?_, λ i oi hi cs b e => ?_, λ i j oi oj d hi hj hd hl => ?_, λ i j oi oj d hi hj h2 h3 => ?_⟩
 . have := (h1 i oi hi).1
   rw [Array.all_eq_true_iff_forall_mem] at this
   have := this e he
   simp [hb] at this
   exact this
 . have := (h1 i oi hi).2.1
   rw [e] at this; cases this
 . have h2 := ((h1 i oi hi).2.2 j oj hj d hd).1
   rcases h2 with h2 | h2
   . have := List.contains_iff_mem.2 hl
     rw [h2] at this; cases this
   . rw [Array.any_eq_true] at h2
     obtain ⟨x, hx, h3⟩ := h2
     simp only [Bool.and_eq_true, beq_iff_eq] at h3
     exact ⟨_, Array.getElem_mem hx, h3.1, h3.2⟩
 . rcases ((h1 i oi hi).2.2 j oj hj d h3).2 with h4 | h4
   . exact h4
   . exact absurd h2 h4
def fillT (ops : Array Oper) (vals : Nat -> Value) (t0 : Array Value) : Array Value :=
 (List.range ops.size).foldl (λ t i => match (ops[i]?).bind (·.dst) with | some d => t.setIfInBounds d (vals i) | none => t) t0
section
variable {ops : Array Oper} {vals : Nat -> Value} {t0 : Array Value}
structure Mid (ops : Array Oper) (vals : Nat -> Value) (t0 : Array Value) (listed : Array Bool) (t : Array Value) : Prop where
 size : t.size = t0.size
 got : ∀ (i : Nat) (o : Oper) (d : Tmp), ops[i]? = some o -> o.dst = some d -> d < t0.size -> listed.getD i false = true -> t[d]? = some (vals i)
 old : ∀ s : Nat, (∀ (i : Nat) (o : Oper), ops[i]? = some o -> listed.getD i false = true -> o.dst ≠ some s) -> t[s]? = t0[s]?
theorem Mid.start (listed : Array Bool) (h : ∀ i, listed.getD i false = false) : Mid ops vals t0 listed t0 :=
 ⟨rfl, λ i o d _ _ _ hl => (by rw [h i] at hl; cases hl), λ s _ => rfl⟩
theorem Mid.step (K : OrdOk ops) {listed : Array Bool} {t : Array Value} (h : Mid ops vals t0 listed t) {i : Nat} {o : Oper} (hi : ops[i]? = some o) (hz : listed.size = ops.size) (hu : listed.getD i true = false) :
   Mid ops vals t0 (listed.setIfInBounds i true) (match o.dst with | some d => t.setIfInBounds d (vals i) | none => t) := by
 have hil : i < listed.size := by rw [hz]; exact (Array.getElem?_eq_some_iff.1 hi).1
 have hset : ∀ j, (listed.setIfInBounds i true).getD j false = if j = i then true else listed.getD j false := by
   intro j
   by_cases e : j = i
   . subst e; simp [hil]
   . rw [if_neg e]; exact getD_set_ne false (Ne.symm e)
 cases hd : o.dst with
 | none =>
   refine ⟨h.size, λ j oj d hj hjd hdt hl => ?_, λ s hs => h.old s λ j oj hj hl => hs j oj hj ?_⟩
   . rw [hset] at hl
     split at hl
     . next e => subst e; rw [hi] at hj; obtain rfl := Option.some.inj hj; rw [hd] at hjd; cases hjd
     . exact h.got j oj d hj hjd hdt hl
   . rw [hset]; split <;> first | rfl | exact hl
 | some d =>
   refine ⟨by simp [h.size], λ j oj d' hj hjd hdt hl => ?_, λ s hs => ?_⟩
   . rw [hset] at hl
     split at hl
     . next e =>
       subst e; rw [hi] at hj; obtain rfl := Option.some.inj hj; rw [hd] at hjd; obtain rfl := Option.some.inj hjd
       simp [Array.getElem?_setIfInBounds, h.size, hdt]
     . next e =>
       have hne : d ≠ d' := λ e2 => e (K.dst j i oj o d' hj hi hjd (by rw [hd, e2]))
       simp only [Array.getElem?_setIfInBounds_ne hne]
       exact h.got j oj d' hj hjd hdt hl
   . have hne : d ≠ s := λ e2 => hs i o hi (by rw [hset, if_pos rfl]) (by rw [hd, e2])
     simp only [Array.getElem?_setIfInBounds_ne hne]
     exact h.old s λ j oj hj hl => hs j oj hj (by rw [hset]; split <;> first | rfl | exact hl)
theorem Mid.unique {listed : Array Bool} {t t' : Array Value} (h : Mid ops vals t0 listed t) (h' : Mid ops vals t0 listed t') : t = t' := by
 apply Array.ext_getElem?
 intro s
 by_cases hex : ∃ (i : Nat) (o : Oper), ops[i]? = some o /\ listed.getD i false = true /\ o.dst = some s
 . obtain ⟨i, o, h1, h2, h3⟩ := hex
   by_cases hs : s < t0.size
   . rw [h.got i o s h1 h3 hs h2, h'.got i o s h1 h3 hs h2]
   . rw [Array.getElem?_eq_none (by rw [h.size]; omega), Array.getElem?_eq_none (by rw [h'.size]; omega)]
 . have hn : ∀ (i : Nat) (o : Oper), ops[i]? = some o -> listed.getD i false = true -> o.dst ≠ some s := λ i o h1 h2 h3 => hex ⟨i, o, h1, h2, h3⟩
   rw [h.old s hn, h'.old s hn]
theorem fill_mid (K : OrdOk ops) : Mid ops vals t0 (Array.replicate ops.size true) (fillT ops vals t0) := by
 have key : ∀ n, n <= ops.size -> Mid ops vals t0 ((Array.range ops.size).map (λ i => decide (i < n))) ((List.range n).foldl (λ t i => match (ops[i]?).bind (·.dst) with | some d => t.setIfInBounds d (vals i) | none => t) t0) := by
   intro n
   induction n with
   | zero => intro _; exact Mid.start _ λ i => by simp; cases h : (Array.range ops.size)[i]? <;> simp
   | succ n ih =>
     intro hn
     have h := ih (by omega)
     obtain ⟨o, ho⟩ : ∃ o, ops[n]? = some o := ⟨ops[n], Array.getElem?_eq_getElem (by omega)⟩
     have hs := Mid.step K h ho (by simp) (by simp [Array.getElem?_range, show n < ops.size by omega])
     rw [List.range_succ, List.foldl_append]
     simp only [List.foldl_cons, List.foldl_nil, ho, Option.bind_some]
     have e : ((Array.range ops.size).map (λ i => decide (i < n))).setIfInBounds n true = (Array.range ops.size).map (λ i => decide (i < n + 1)) := by
       apply Array.ext_getElem?
       intro j
       rw [Array.getElem?_setIfInBounds]
       by_cases hj : j < ops.size
       . by_cases e : n = j
         . subst e; simp [hj]
         . simp [hj, e]; omega
       . have : ¬ n = j := by omega
         simp [hj, this]
     rw [e] at hs
     exact hs
 have := key ops.size (Nat.le_refl _)
 have e : (Array.range ops.size).map (λ i => decide (i < ops.size)) = Array.replicate ops.size true := by
   apply Array.ext_getElem?
   intro j
   by_cases hj : j < ops.size <;> simp [hj]
 rw [e] at this
 exact this
theorem Mid.sees (K : OrdOk ops) {listed : Array Bool} {t Tf : Array Value} (h : Mid ops vals t0 listed t) (hf : Mid ops vals t0 (Array.replicate ops.size true) Tf) {i : Nat} {o : Oper} (hi : ops[i]? = some o) (hdep : ∀ e ∈ o.after, Region.binds .any e = true -> listed.getD e.on false = true) :
   ∀ s ∈ o.looksAt ops, t[s]? = Tf[s]? := by
 intro s hs
 by_cases hex : ∃ (j : Nat) (oj : Oper), ops[j]? = some oj /\ oj.dst = some s
 . obtain ⟨j, oj, hj, hd⟩ := hex
   obtain ⟨e, he, hb, rfl⟩ := K.rd i j o oj s hi hj hd hs
   have hl := hdep e he hb
   have hjl : e.on < ops.size := (Array.getElem?_eq_some_iff.1 hj).1
   by_cases hz : s < t0.size
   . rw [h.got _ oj s hj hd hz hl, hf.got _ oj s hj hd hz (by simp [hjl])]
   . have hz' : t0.size <= s := Nat.le_of_not_lt hz
     rw [Array.getElem?_eq_none (by rw [h.size]; exact hz'), Array.getElem?_eq_none (by rw [hf.size]; exact hz')]
 . have hn : ∀ (j : Nat) (oj : Oper), ops[j]? = some oj -> oj.dst ≠ some s := λ j oj hj hd => hex ⟨j, oj, hj, hd⟩
   rw [h.old s (λ j oj hj _ => hn j oj hj), hf.old s (λ j oj hj _ => hn j oj hj)]
end
theorem eval_agree {t t' : Array Value} {x : Operand} (h : ∀ s, x = .tmp s -> t[s]? = t'[s]?) : (Go.Act.mk t []).eval x = (Go.Act.mk t' []).eval x := by
 cases x with
 | tmp s =>
   have := h s rfl
   show t.getD s undef = t'.getD s undef
   simp only [Array.getD_eq_getD_getElem?, this]
 | _ => rfl
theorem exec_agree {ops : Array Oper} {o : Oper} {t t' : Array Value} (hs : ∀ cs b, o.op ≠ .select cs b) (h : ∀ s ∈ o.looksAt ops, t[s]? = t'[s]?) : execOp (Go.Act.mk t []).eval o = execOp (Go.Act.mk t' []).eval o :=
 execOp_congr o hs λ x hx => eval_agree λ s e => h s (by
   subst e
   exact List.mem_append_left _ (List.mem_filterMap.2 ⟨.tmp s, by simpa using hx, rfl⟩))
theorem wanted_agree {ops : Array Oper} {o : Oper} {t t' : Array Value} (h : ∀ s ∈ o.looksAt ops, t[s]? = t'[s]?) : Region.wanted o (yielded ops t) = Region.wanted o (yielded ops t') := by
 unfold Region.wanted
 cases hg : o.guard with
 | none => rfl
 | some gw =>
   obtain ⟨g, want⟩ := gw
   have hy : yielded ops t g = yielded ops t' g := by
     unfold yielded
     cases ht : (ops[g]?).bind (·.dst) with
     | none => rfl
     | some s =>
       have := h s (by simp [Oper.looksAt, hg, ht])
       simp only [Option.bind_some, this]
   simp only [hy]
section
variable {p : Program} {op gs gs₁ fs : FuncId -> Bool} {St : Nat -> Prop} {W0 : World} {Post : Value -> World -> Prop}
inductive OpJ (p : Program) (op gs fs : FuncId -> Bool) (St : Nat -> Prop) (W0 : World) (Post : Value -> World -> Prop) (fn : FuncId) (ops : Array Oper) (k : List Item) (ms : List Fm) (WI : World -> Prop) (Tf : Array Value) (i : Nat) (o : Oper) (v : Value) : Prop
 | no (h : Region.wanted o (yielded ops Tf) = false) (hv : v = undef)
 | val (h : Region.wanted o (yielded ops Tf) = true) (hx : ∀ w, WI w -> (execOp (Go.Act.mk Tf []).eval o).run p w = .ok (.value v) w)
 | call (h : Region.wanted o (yielded ops Tf) = true) (hx : ∀ (t : Array Value) (rest : List Nat) (w : World), (∀ x ∈ o.op.operands, (Go.Act.mk t []).eval x = (Go.Act.mk Tf []).eval x) -> Region.wanted o (yielded ops t) = true -> WI w ->
     (∀ w', WI w' -> JL p op gs fs St W0 Post ((⟨fn, t, .inRegion ops (i :: rest) :: k, false⟩ : Fm).fin ops i rest k v) ms w') -> JL p op gs fs St W0 Post ⟨fn, t, .inRegion ops (i :: rest) :: k, false⟩ ms w)
theorem first_ready {ops : Array Oper} (K : OrdOk ops) {listed : Array Bool} (hz : listed.size = ops.size) (h : Region.ready .any ops listed = []) : ∀ i, i < ops.size -> listed.getD i false = true := by
 intro i
 induction i using Nat.strongRecOn with
 | ind i ih =>
   intro hi
   obtain ⟨o, ho⟩ : ∃ o, ops[i]? = some o := ⟨ops[i], Array.getElem?_eq_getElem hi⟩
   cases hl : listed.getD i false with
   | true => rfl
   | false =>
     have hm : i ∈ Region.ready .any ops listed := mem_ready.2 ⟨by
       have hil : i < listed.size := by omega
       simp [hil] at hl ⊢; exact hl, o, ho, λ e he hb => ih e.on (K.bk i o ho e he hb) (by have := K.bk i o ho e he hb; omega)⟩
     rw [h] at hm; cases hm
theorem JO.drawnGo (L : Lv p op gs gs₁ fs) {fn : FuncId} {t0 Tf : Array Value} {ops : Array Oper} {k : List Item} {ms : List Fm} {vals : Nat -> Value} {WI : World -> Prop} (hf : op fn = false) (K : OrdOk ops) (hT : Mid ops vals t0 (Array.replicate ops.size true) Tf)
   (hWT : ∀ w T e, WI w -> WI (Tt.tp w T e)) (hop : ∀ (i : Nat) (o : Oper), ops[i]? = some o -> OpJ p op gs fs St W0 Post fn ops k ms WI Tf i o (vals i)) (hk : ∀ w, WI w -> JL p op gs fs St W0 Post ⟨fn, Tf, k, false⟩ ms w) :
   ∀ (fuel q : Nat) (listed : Array Bool) (t : Array Value) (w : World), listed.size = ops.size -> ((List.range ops.size).filter λ i => !listed.getD i false).length <= fuel -> Mid ops vals t0 listed t -> WI w ->
     JL p op gs fs St W0 Post ⟨fn, t, .inRegion ops (Region.linearise.go .any ops fuel q listed []) :: k, false⟩ ms w := by
 have fin : ∀ (listed : Array Bool) (t : Array Value) (w : World), listed.size = ops.size -> (∀ i, i < ops.size -> listed.getD i false = true) -> Mid ops vals t0 listed t -> WI w -> JL p op gs fs St W0 Post ⟨fn, t, .inRegion ops [] :: k, false⟩ ms w := by
   intro listed t w hz hall hm hw
   have e : listed = Array.replicate ops.size true := by
     apply Array.ext_getElem?
     intro j
     by_cases hj : j < ops.size
     . have := hall j hj
       have hjl : j < listed.size := by omega
       simp [hjl] at this
       simp [hj, hjl, this]
     . rw [Array.getElem?_eq_none (by omega), Array.getElem?_eq_none (by simp; omega)]
   subst e
   have e2 := hm.unique hT
   subst e2
   exact JO.regEnd L hf (hk w hw)
 intro fuel
 induction fuel with
 | zero =>
   intro q listed t w hz hc hm hw
   simp only [Region.linearise.go, List.reverse_nil]
   refine fin listed t w hz (λ i hi => ?_) hm hw
   cases hl : listed.getD i false with
   | true => rfl
   | false =>
     have : i ∈ (List.range ops.size).filter λ i => !listed.getD i false := List.mem_filter.2 ⟨List.mem_range.2 hi, by rw [hl]; rfl⟩
     have := List.length_pos_of_mem this
     omega
 | succ fuel ih =>
   intro q listed t w hz hc hm hw
   simp only [Region.linearise.go]
   change JL p op gs fs St W0 Post ⟨fn, t, .inRegion ops (match (Region.ready .any ops listed)[q % (Region.ready .any ops listed).length]? with
     | some i => Region.linearise.go .any ops fuel (q / (Region.ready .any ops listed).length) (listed.setIfInBounds i true) [i]
     | none => [].reverse) :: k, false⟩ ms w
   cases hi : (Region.ready .any ops listed)[q % (Region.ready .any ops listed).length]? with
   | none =>
     have hnil : Region.ready .any ops listed = [] := by
       cases hr : Region.ready .any ops listed with
       | nil => rfl
       | cons x xs =>
         rw [hr] at hi
         have hlt : q % (x :: xs).length < (x :: xs).length := Nat.mod_lt _ (by simp)
         simp at hi
         simp at hlt
         omega
     exact fin listed t w hz (first_ready K hz hnil) hm hw
   | some i =>
     simp only []
     rw [linearise_go_acc, List.reverse_singleton, List.singleton_append]
     obtain ⟨hu, o, ho, hdep⟩ := mem_ready.1 (List.mem_of_getElem? hi)
     have hsee := hm.sees K hT ho hdep
     have hm' := hm.step K ho hz hu
     have hil : i < ops.size := (Array.getElem?_eq_some_iff.1 ho).1
     have hcnt : ((List.range ops.size).filter λ j => !(listed.setIfInBounds i true).getD j false).length <= fuel := by
       have hlt : ((List.range ops.size).filter λ j => !(listed.setIfInBounds i true).getD j false).length < ((List.range ops.size).filter λ j => !listed.getD j false).length := by
         have e : ((List.range ops.size).filter λ j => !(listed.setIfInBounds i true).getD j false) = ((List.range ops.size).filter λ j => !listed.getD j false).filter (λ j => j != i) := by
           rw [List.filter_filter]
           apply List.filter_congr
           intro j hj
           by_cases e : j = i
           . subst e
             have : j < listed.size := by omega
             simp [this]
           . rw [getD_set_ne false (Ne.symm e)]
             simp [e]
         rw [e]
         refine List.length_filter_lt_length_iff_exists.2 ⟨i, List.mem_filter.2 ⟨List.mem_range.2 hil, ?_⟩, by simp⟩
         have : i < listed.size := by omega
         simp [this] at hu ⊢; exact hu
       omega
     have next : ∀ w', WI w' -> JL p op gs fs St W0 Post ((⟨fn, t, .inRegion ops (i :: Region.linearise.go .any ops fuel (q / (Region.ready .any ops listed).length) (listed.setIfInBounds i true) []) :: k, false⟩ : Fm).fin ops i (Region.linearise.go .any ops fuel (q / (Region.ready .any ops listed).length) (listed.setIfInBounds i true) []) k (vals i)) ms w' := by
       intro w' hw'
       have := ih (q / (Region.ready .any ops listed).length) (listed.setIfInBounds i true) _ w' (by simp [hz]) hcnt hm' hw'
       simp only [Fm.fin, ho, Option.bind_some]
       cases hd : o.dst with
       | none => rw [hd] at this; exact this
       | some d => rw [hd] at this; exact this
     rcases hop i o ho with ⟨h1, h2⟩ | ⟨h1, h2⟩ | ⟨h1, h2⟩
     . have hw0 : Region.wanted o (yielded ops t) = false := (wanted_agree hsee).trans h1
       refine JO.ctl L (m1 := (⟨fn, t, .inRegion ops (i :: Region.linearise.go .any ops fuel (q / (Region.ready .any ops listed).length) (listed.setIfInBounds i true) []) :: k, false⟩ : Fm).fin ops i (Region.linearise.go .any ops fuel (q / (Region.ready .any ops listed).length) (listed.setIfInBounds i true) []) k undef) rfl hf (λ w => ?_) ?_
       . simp only [runS, ho, Option.map_some, Option.getD_some, hw0, Bool.false_eq_true, if_false, Pure.pure, Sem.run]
       . rw [<- h2]; exact next w hw
     . have hw1 : Region.wanted o (yielded ops t) = true := (wanted_agree hsee).trans h1
       have := next w hw
       refine JO.opv L hf ho hw1 (v := vals i) (λ T e => ?_) ?_
       . rw [exec_agree (K.sel i o ho) hsee]; exact h2 _ (hWT _ _ _ hw)
       . have e : (Go.Act.put ⟨t, []⟩ o.dst (vals i)).tmps = (match o.dst with | some d => t.setIfInBounds d (vals i) | none => t) := by
           cases o.dst <;> rfl
         rw [e]
         simp only [Fm.fin, ho, Option.bind_some] at this
         exact this
     . have hw1 : Region.wanted o (yielded ops t) = true := (wanted_agree hsee).trans h1
       exact h2 t _ w (λ x hx => eval_agree λ s e => hsee s (by
         subst e
         exact List.mem_append_left _ (List.mem_filterMap.2 ⟨.tmp s, by simpa using hx, rfl⟩))) hw1 hw next
theorem JO.drawn (L : Lv p op gs gs₁ fs) (hmix : p.follows .mixedOrders = true) {fn : FuncId} {t0 Tf : Array Value} {id : Nat} {ops : Array Oper} {k : List Item} {ms : List Fm} {vals : Nat -> Value} {WI : World -> Prop} (hf : op fn = false) (hok : ordOk ops = true) (hT : fillT ops vals t0 = Tf)
   (hWT : ∀ w T e, WI w -> WI (Tt.tp w T e)) (hop : ∀ (i : Nat) (o : Oper), ops[i]? = some o -> OpJ p op gs fs St W0 Post fn ops k ms WI Tf i o (vals i)) (hk : ∀ w, WI w -> JL p op gs fs St W0 Post ⟨fn, Tf, k, false⟩ ms w) {w : World} (hw : WI w) :
   JL p op gs fs St W0 Post ⟨fn, t0, .code (.region id ops true) :: k, false⟩ ms w := by
 have K := ordOk_ok hok
 subst hT
 refine JO.one L.fit rfl (λ e => by cases e) (λ T => ((⟨fn, t0, .inRegion ops (Region.schedule (p.follows .mixedOrders) ops (T 0 (.order fn id))) :: k, false⟩, ms), Tt.tp w T 1)) (λ T => ?_) (λ T K' R y ho => ?_) (λ T => ?_)
 . show (stepS p _ ms).run p _ = _
   rfl
 . obtain ⟨f, xs, xs', c, c', rest, rest', h1, h2, h3, h4, _⟩ := ho.ex
   simp only [Prod.mk.injEq] at h4
   have h5 := congrArg Fm.fn h4.1
   rw [entF_fn] at h5
   have h6 : op f = true := h1
   simp only at h5
   rw [<- h5, hf] at h6; cases h6
 . simp only [Region.schedule, hmix, Bool.true_or, if_true]
   exact JO.drawnGo L hf K (fill_mid K) hWT hop hk ops.size _ _ t0 (Tt.tp w T 1) (by simp) (Nat.le_trans (List.length_filter_le _ _) (by simp)) (Mid.start _ λ i => by
     by_cases hi : i < ops.size <;> simp [hi]) (hWT _ _ _ hw)
theorem JO.regh {P : Pair} {fs : FuncId -> Bool} {G' : Nat} {m : Fm} {ms : List Fm} {w : World} {g o n c s : Nat} {cs : Array Value} {T : TypeId} {fz : Nat × Nat} (hslot : m.tmps[s]? = some (.slice (some ⟨g, o, none⟩) n c)) (hb : w.heap[g]? = some (.cells cs T fz))
   (h : ∀ cs' : Array Value, cs'.size = cs.size -> (∀ (i : Nat) (v : Value), cs[i]? = some v -> plainV v -> cs'[i]? = some v) -> (∀ u ∈ cs', Uni u) -> JO P fs G' St W0 Post m ms (put w g (.cells cs' T fz))) : JO P fs G' St W0 Post m ms w := by
 intro K R W m' ms' Shun hw hm hms hsh hk
 have hsl : s < m.tmps.size := (Array.getElem?_eq_some_iff.1 hslot).1
 have hsl' : s < m'.tmps.size := by rw [<- hm.tmps.1]; exact hsl
 have hv := hm.tmps.2 s _ _ hslot (Array.getElem?_eq_getElem hsl')
 obtain ⟨b', hgb⟩ : ∃ b', R g b' := by
   generalize m'.tmps[s] = v' at hv
   cases hv with
   | slice x => cases x with | some y => cases y with | mk z => exact ⟨_, z⟩
 obtain ⟨ob, ob', h1, h2, h3⟩ := hw.cont _ _ hgb
 rw [hb] at h1
 obtain rfl := Option.some.inj h1
 cases h3 with
 | cells hc hf =>
   rename_i c' fz'
   let gh : Value -> Value := λ v => (ghostu (S := SF fs) (SizeOf.sizeOf v + 1) v (Nat.lt_succ_self _)).choose
   have hg : ∀ v, Uni (gh v) /\ (∀ K R, VR (SF fs) K R (gh v) v) /\ (plainV v -> gh v = v) := λ v => (ghostu (S := SF fs) (SizeOf.sizeOf v + 1) v (Nat.lt_succ_self _)).choose_spec
   refine h (c'.map gh) (by simp [hc.1]) (λ i v hi hp => ?_) (λ u hu => ?_) K R W m' ms' Shun ?_ hm hms hsh hk
   . have hi' : i < c'.size := by rw [<- hc.1]; exact (Array.getElem?_eq_some_iff.1 hi).1
     have hvv := hc.2 i v _ hi (Array.getElem?_eq_getElem hi')
     have e := plain_eq hp hvv
     rw [Array.getElem?_map, Array.getElem?_eq_getElem hi', e]
     simp only [Option.map_some]
     rw [(hg v).2.2 hp]
   . obtain ⟨v, _, rfl⟩ := Array.mem_map.1 hu
     exact (hg v).1
   . refine WRel.put hw hgb h2 (.cells ⟨by simp, λ i u v h4 h5 => ?_⟩ hf) (λ a x e => x) (λ x => ?_)
     . rw [Array.getElem?_map, h5] at h4
       simp only [Option.map_some, Option.some.injEq] at h4
       subst h4
       exact (hg v).2.1 K R
     . obtain ⟨_, c2, T2, hi, h6, h7⟩ := hw.st g x
       rw [hb] at h6
       simp only [Option.some.injEq, Obj.cells.injEq] at h6
       obtain ⟨rfl, rfl, h8⟩ := h6
       exact ⟨_, _, hi, by rw [h8], by simp [<- hc.1]; exact h7⟩
end
end Go.Mt
namespace Go.Mt
open Go.Conc Go.Tt
abbrev TfV (Tf : Array Value) (V : Nat -> Value) : Prop := ∀ s, Tf.getD s undef = V s
def isDst (ops : Array Oper) (s : Nat) : Bool := ops.any λ o => o.dst == some s
def valV (V : Nat -> Value) (o : Oper) : Value := match o.dst with | some d => V d | none => undef
theorem isDst_of {ops : Array Oper} {i : Nat} {o : Oper} {d : Tmp} (h : ops[i]? = some o) (hd : o.dst = some d) : isDst ops d = true := by
 unfold isDst
 rw [Array.any_eq_true]
 obtain ⟨hi, e⟩ := Array.getElem?_eq_some_iff.1 h
 exact ⟨i, hi, by rw [e, hd]; simp⟩
theorem isDst_no {ops : Array Oper} {s : Nat} (h : ∀ (i : Nat) (o : Oper), ops[i]? = some o -> o.dst ≠ some s) : isDst ops s = false := by
 unfold isDst
 rw [Array.any_eq_false]
 intro i hi
 have := h i ops[i] (Array.getElem?_eq_getElem hi)
 simpa using this
theorem fill_V {ops : Array Oper} {t0 : Array Value} {V : Nat -> Value} {vals : Nat -> Value} (K : OrdOk ops) (hvals : ∀ (i : Nat) (o : Oper) (d : Tmp), ops[i]? = some o -> o.dst = some d -> vals i = V d) (hd : ∀ s, isDst ops s = true -> s < t0.size) (hold : ∀ s, isDst ops s = false -> V s = t0.getD s undef) :
   TfV (fillT ops vals t0) V := by
 intro s
 have M := fill_mid (vals := vals) (t0 := t0) K
 rw [Array.getD_eq_getD_getElem?]
 by_cases hex : ∃ (i : Nat) (o : Oper), ops[i]? = some o /\ o.dst = some s
 . obtain ⟨i, o, h1, h2⟩ := hex
   have hil : i < ops.size := (Array.getElem?_eq_some_iff.1 h1).1
   rw [M.got i o s h1 h2 (hd s (isDst_of h1 h2)) (by simp [hil])]
   exact hvals i o s h1 h2
 . have hn : ∀ (i : Nat) (o : Oper), ops[i]? = some o -> o.dst ≠ some s := λ i o h1 h2 => hex ⟨i, o, h1, h2⟩
   rw [M.old s (λ i o h1 _ => hn i o h1), hold s (isDst_no hn), Array.getD_eq_getD_getElem?]
section
variable {ops : Array Oper} {Tf : Array Value} {V : Nat -> Value} {o og : Oper} {j d : Nat} {want b : Bool}
theorem wanted_no (h : o.guard = none) {y : Nat -> Option Bool} : Region.wanted o y = true := by unfold Region.wanted; rw [h]
theorem yielded_V (hT : TfV Tf V) (hj : ops[j]? = some og) (hd : og.dst = some d) (hV : V d = .bool b) : yielded ops Tf j = some b := by
 have h1 := (hT d).trans hV
 rw [Array.getD_eq_getD_getElem?] at h1
 unfold yielded
 rw [hj]
 simp only [Option.bind_some, hd]
 cases h : Tf[d]? with
 | none => rw [h] at h1; cases h1
 | some v => rw [h] at h1; simp only [Option.getD_some] at h1; subst h1; rfl
theorem wanted_if (hT : TfV Tf V) (h : o.guard = some (j, want)) (hj : ops[j]? = some og) (hd : og.dst = some d) (hV : V d = .bool b) : Region.wanted o (yielded ops Tf) = (b == want) := by
 unfold Region.wanted
 rw [h]
 simp only [yielded_V hT hj hd hV]
 cases b <;> cases want <;> rfl
end
section
variable {p : Program} {op gs gs₁ fs : FuncId -> Bool} {St : Nat -> Prop} {W0 : World} {Post : Value -> World -> Prop}
theorem JO.drawnV (L : Lv p op gs gs₁ fs) (hmix : p.follows .mixedOrders = true) {fn : FuncId} {t0 : Array Value} {id : Nat} {ops : Array Oper} {k : List Item} {ms : List Fm} {WI : World -> Prop} (hf : op fn = false) (hok : ordOk ops = true)
   (hWT : ∀ w T e, WI w -> WI (Tt.tp w T e)) (hsz : ∀ s, isDst ops s = true -> s < t0.size) (U : Nat -> Value)
   (h : ∀ V : Nat -> Value, (∀ s, isDst ops s = true -> V s = U s) -> (∀ s, isDst ops s = false -> V s = t0.getD s undef) ->
     (∀ Tf, TfV Tf V -> ∀ (i : Nat) (o : Oper), ops[i]? = some o -> OpJ p op gs fs St W0 Post fn ops k ms WI Tf i o (valV V o)) /\ ∀ Tf w, TfV Tf V -> Tf.size = t0.size -> WI w -> JL p op gs fs St W0 Post ⟨fn, Tf, k, false⟩ ms w) {w : World} (hw : WI w) :
   JL p op gs fs St W0 Post ⟨fn, t0, .code (.region id ops true) :: k, false⟩ ms w := by
 let V : Nat -> Value := λ s => if isDst ops s = true then U s else t0.getD s undef
 have hV1 : ∀ s, isDst ops s = true -> V s = U s := λ s e => if_pos e
 have hV2 : ∀ s, isDst ops s = false -> V s = t0.getD s undef := λ s e => if_neg (by simp [e])
 obtain ⟨h1, h2⟩ := h V hV1 hV2
 let vals : Nat -> Value := λ i => match ops[i]? with | some o => valV V o | none => undef
 have hTf : TfV (fillT ops vals t0) V := fill_V (ordOk_ok hok) (λ i o d e1 e2 => by
   show (match ops[i]? with | some o => valV V o | none => undef) = V d
   rw [e1]; simp only [valV, e2]) hsz hV2
 refine JO.drawn L hmix hf hok (vals := vals) (Tf := fillT ops vals t0) rfl hWT (λ i o e => ?_) (λ w hw => h2 _ w hTf (fill_mid (ordOk_ok hok)).size hw) hw
 have := h1 _ hTf i o e
 have e2 : vals i = valV V o := by
   show (match ops[i]? with | some o => valV V o | none => undef) = valV V o
   rw [e]
 rw [e2]
 exact this
end
end Go.Mt
