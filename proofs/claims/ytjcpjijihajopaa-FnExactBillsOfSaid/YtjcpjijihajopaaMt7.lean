/-
  Goroutine 0 outside phases; a child's birth and end; what is frozen for a while.
  The ghost's world turned: more channels known, blocks frozen and thawed, blocks made beside; goroutine 0's invariant within a phase.
  More rules: a region's list written out, deferred calls, a child's invariant, a load.
  A slice that a child reads while goroutine 0 goes on: what is frozen for the while, and the two ghosts.
  The law level: how a run begins; a call of a function that is judged in its turn.
-/
import Derived.Test.YtjcpjijihajopaaMt5
import Derived.Test.YtjcpjijihajopaaMt6
import Derived.Conc.TokenWalk
import Derived.Test.YtjcpjijihajopaaMt4
set_option linter.unusedSectionVars false
set_option linter.unusedSimpArgs false
set_option linter.unusedVariables false
namespace Go.Mt
open Go.Conc Go.Tt
open Go.ConcR (KK wgBlock WgAt stA smA rd wr DC0)
set_option linter.unusedVariables false
section
variable {p : Program} {Post : Value → World → Prop} {Shun : Loc → Prop}
theorem J.goes {B : Nat} : ∀ (n : Nat) {g : Goroutine} {w : World}, Goes p true AtRel DC0 (J p Post Shun B) n g w → J p Post Shun B g w := by
  intro n
  induction n with
  | zero => exact fun {g w} h => by have := h w ⟨w.drawn, rfl⟩; exact this
  | succ n ih =>
    intro g w h
    rcases h with h | ⟨hs, h⟩
    · have := h w ⟨w.drawn, rfl⟩; exact this
    · refine J.own hs fun d => ?_
      obtain ⟨g₁, w', es, hgo, ⟨e1, e2⟩, hg⟩ := goes_elim (h (w.at d) ⟨d, rfl⟩)
      subst e1 e2
      exact ⟨g₁, _, #[], B, hgo, fun e he => by simp at he, Nat.le_refl _, ih hg⟩
/-- With steps that make memory. -/
def DJ (Shun : Loc → Prop) (w w' : World) (es : Array Event) : Prop := w.heap.size ≤ w'.heap.size ∧ ∀ e ∈ es, EvL Shun w'.heap.size e
theorem J.goesW : ∀ (n : Nat) {g : Goroutine} {w : World}, Goes p true AtRel (DJ Shun) (fun g w => J p Post Shun w.heap.size g w) n g w → J p Post Shun w.heap.size g w := by
  intro n
  induction n with
  | zero => exact fun {g w} h => by have := h w ⟨w.drawn, rfl⟩; exact this
  | succ n ih =>
    intro g w h
    rcases h with h | ⟨hs, h⟩
    · have := h w ⟨w.drawn, rfl⟩; exact this
    · refine J.own hs fun d => ?_
      obtain ⟨g₁, w', es, hgo, ⟨e1, e2⟩, hg⟩ := goes_elim (h (w.at d) ⟨d, rfl⟩)
      exact ⟨g₁, w', es, w'.heap.size, hgo, e2, e1, ih hg⟩
end
/-! ### a child -/
section
variable {p : Program}
def botF (p : Program) : Frame := { (default : Frame) with fn := p.funcs.size, defers := [], mode := .panicking [goexitEntry] }
theorem born_stepG {f : FuncId} {fn : Func} {c : Code} {cap args : Array Value} (hf : p.funcs[f]? = some fn) (hn : (fn.name == "runtime.NumGoroutine") = false) (hb : fn.body = some c) (w : World) :
    stepG p false (born p { target := .fn (.func f) cap, args := args }) w = .go (G ((baseD f).at ⟨(args ++ cap) ++ Array.replicate (fn.ntmps - (args ++ cap).size) undef, []⟩ [.code c]) [botF p]) w #[] := by
  have hn' : ¬ fn.name = "runtime.NumGoroutine" := by simpa using hn
  simp [born, stepG, unwind, callDeferred, invoke, callFunc, hf, hn', hb, seen, GStep.after, G, Frame.enter, Frame.at, baseD, botF]
theorem quits_child {f : FuncId} {fn : Func} (hf : p.funcs[f]? = some fn) (hr : fn.results = #[]) (T : Array Value) (todo : List Item) : QuitsD p 2 0 (G { (baseD f).at ⟨T, []⟩ todo with mode := .returning } [botF p]) := by
  refine QuitsD.ctl (g' := G (botF p) []) rfl (fun w => ?_) ?_
  · simp [G, stepG, unwind, doReturn, results, Frame.at, baseD, botF, hf, hr, seen, GStep.after, goexitEntry]
  refine QuitsD.ctl (g' := { G (botF p) [] with status := .finished }) rfl (fun w => ?_) ⟨rfl, rfl⟩
  simp [G, stepG, unwind, botF, goexitEntry, Frame.catches]
  rfl
/-- The deferred 'close(c)'. -/
def closeD (ats : Array TypeId) (ty : TypeId) (cs : Array Bool) (c : Nat) : Deferred := { target := .builtin .close ats ty cs, args := #[.chan (some c)] }
theorem stepG_unwind_close {b : Frame} {a : Go.Act} {todo : List Item} {cs : List Frame} {ds : List Deferred} {ats : Array TypeId} {ty : TypeId} {cc : Array Bool} {c s r cap : Nat} {buf : Array Value} {tm : Bool} {w : World} (hd : a.defers = closeD ats ty cc c :: ds) (hc : w.heap[c]? = some (.chan cap buf false s r tm)) (hq : (p.funcs[b.fn]?).any (·.norace) = false) :
    stepG p false (G { b.at a todo with mode := .returning } cs) w = .go (G { b.at ⟨a.tmps, ds⟩ todo with mode := .returning } cs) (w.setChan c cap buf true s r tm) (closeEvents c) := by
  have hr : (invoke (.builtin .close ats ty cc) #[.chan (some c)]).run p w = .ok (.value (.tuple #[])) (w.setChan c cap buf true s r tm) := by
    simp [invoke, go_sem, run_close_open _ _ hc, World.setChan]
  have he : (invoke (.builtin .close ats ty cc) #[.chan (some c)]).events p w #[] = closeEvents c := by
    simp [invoke, go_sem, events_close_open _ _ hc, closeEvents]
  have hl : seen p b.fn (closeEvents c) = closeEvents c := seen_eq hq (by intro e he f; simp only [closeEvents, List.mem_toArray, List.mem_cons, List.not_mem_nil, or_false] at he; rcases he with rfl | rfl <;> simp)
  simp [G, stepG, unwind, callDeferred, Frame.at, hd, closeD, hr, he, hl, GStep.after]
end
section
variable [Go.ConcR.Payload] {Lk : Go.Conc.Lib.WgLink}
open Go.Conc.Lib Go.ConcR.Gen
theorem live_setChan {ty : TypeId} {Wg c : Nat} {w : World} (h : WgLive ty Wg w) {cap s r : Nat} {buf buf' : Array Value} {tm b b' : Bool} {s' r' cap' : Nat} (hc : w.heap[c]? = some (.chan cap buf b s r tm)) : WgLive ty Wg (w.setChan c cap' buf' b' s' r' tm) := by
  obtain ⟨x, y, h⟩ := h
  refine ⟨x, y, ?_⟩
  have hne : c ≠ Wg := fun e => by subst e; have h' : w.heap[c]? = some _ := h; rw [hc] at h'; cases h'
  show (w.setChan c cap' buf' b' s' r' tm).heap[Wg]? = _
  simp only [World.setChan, Array.getElem?_setIfInBounds_ne hne]
  exact h
theorem KeepF.triv (ty : TypeId) (Wg : Nat) (τ : Terr) : KeepF ty Wg τ (fun _ => True) := ⟨fun _ _ _ _ => trivial, fun _ _ _ _ _ => trivial⟩
set_option maxRecDepth 100000 in
/-- A CHILD'S END: 'close', then 'Done'. -/
theorem child_end {L : Type} {p : Program} (H : WgLib p Lk) {A : Proto L} {Fin : Goroutine → World → Prop} {Wg c : Nat} {l nx : L} (hc : A.act l = .close c nx) (hd : A.act nx = .done) (hdep : ∀ w, A.dep nx w) {f : FuncId} {fn : Func} (hf : p.funcs[f]? = some fn) (hr : fn.results = #[]) (hq : fn.norace = false)
    {τ : Terr} (hp : τ.pass c) {w : World} (hlive : WgLive Lk.tWg Wg w) (T : Array Value) (todo : List Item) (ats : Array TypeId) (ty : TypeId) (cc : Array Bool) :
    BehE p Lk.tWg Wg A Fin false (.usr l) 0 τ (G { (baseD f).at ⟨T, [closeD ats ty cc c, dcall Lk.done #[.pointer (some ⟨Wg, 0, none⟩)]]⟩ todo with mode := .returning } [botF p]) w := by
  refine BehE.usr rfl ?_
  unfold AtUsr
  rw [hc]
  refine ⟨rfl, hp, fun w₁ s s' r hcc => ⟨_, stepG_unwind_close rfl hcc (by show (p.funcs[f]?).any (·.norace) = false; rw [hf]; simp [hq]), rfl, ?_⟩⟩
  have hl1 : WgLive Lk.tWg Wg (w₁.setChan c 0 #[] true s' r false) := live_setChan (s.live hlive) hcc
  refine beh_silent rfl rfl (fun W₁ s => stepG_unwind_enter rfl H.f_done (nm_done Lk) rfl) fun W₁ s => ?_
  have := doneW (F := fun _ => True) (Fin := Fin) H hd (KeepF.triv Lk.tWg Wg τ) (fun w _ => hdep w) (c := { (baseD f).at ⟨T, []⟩ todo with mode := .returning }) (cs := [botF p]) rfl (quits_child hf hr T todo) W₁ ⟨trivial, s.live hl1⟩
  exact this
end
end Go.Mt
namespace Go.Mt
open Go.Conc Go.Tt
open Go.ConcR (KK wgBlock WgAt stA smA rd wr)
set_option linter.unusedVariables false
section
variable {S : FuncId → Prop} {K K' R R' : Pr} {G : Nat} {St St' : Nat → Prop} {w W : World}
theorem Pr.or_le {K K' R R' : Pr} (hK : K.le K') (hR : R.le R') : (R.or K).le (R'.or K') := fun a b x => x.imp (hR a b) (hK a b)
theorem vr_monoK (hK : K.le K') {v v' : Value} (x : VR S K R v v') : VR S K' R v v' := by
  induction x with
  | bool b => exact .bool b
  | int k n => exact .int k n
  | string s => exact .string s
  | nilFunc => exact .nilFunc
  | nilIface => exact .nilIface
  | pointer x => exact .pointer x
  | slice x => exact .slice x
  | map x => exact .map x
  | chan x => exact .chan (x.mono (Pr.or_le hK (.refl _)))
  | func s e1 _ e2 _ i1 i2 => exact .func s e1 i1 e2 i2
  | iface _ ih => exact .iface ih
  | agg e _ ih => exact .agg e ih
  | tuple e _ ih => exact .tuple e ih
  | junk h => exact .junk h
theorem ArR.monoK (hK : K.le K') {xs xs' : Array Value} (x : ArR S K R xs xs') : ArR S K' R xs xs' := ⟨x.1, fun i v v' h1 h2 => vr_monoK hK (x.2 i v v' h1 h2)⟩
theorem EntR.monoK (hK : K.le K') {e e' : MapEntry} (x : EntR S K R e e') : EntR S K' R e e' := by cases x with | mk a b => exact .mk (vr_monoK hK a) (vr_monoK hK b)
theorem ObR.monoK (hK : K.le K') {o o' : Obj} (x : ObR S K R o o') : ObR S K' R o o' := by
  cases x with
  | cells a b => exact .cells (ArR.monoK hK a) b
  | map a => exact .map ⟨a.1, fun i e e' h1 h2 => EntR.monoK hK (a.2 i e e' h1 h2)⟩
  | chan a => exact .chan (ArR.monoK hK a)
  | stringIter s p => exact .stringIter s p
  | number a => exact .number a
  | mapIter a => exact .mapIter a
theorem FmR.monoK {P : Pair} {fs : FuncId → Bool} (hK : K.le K') {m m' : Fm} (x : FmR P fs K R m m') : FmR P fs K' R m m' := ⟨x.fn, x.todo, x.ret, ArR.monoK hK x.tmps, x.fit, x.infs⟩
theorem MsR.monoK {P : Pair} {fs : FuncId → Bool} (hK : K.le K') {ms ms' : List Fm} (x : MsR P fs K R ms ms') : MsR P fs K' R ms ms' := by
  induction x with
  | nil => exact .nil
  | cons a b _ ih => exact .cons (FmR.monoK hK a) b ih
/-- The real world has changed elsewhere. -/
theorem WRel.real {W' : World} (h : WRel S K R G St w W) (hk : ∀ a b, R a b → W'.heap[b]? = W.heap[b]?) (hs : W.heap.size ≤ W'.heap.size) : WRel S K R G St w W' := by
  refine ⟨h.inj, h.inj', fun a b x => ⟨(h.lt a b x).1, Nat.lt_of_lt_of_le (h.lt a b x).2 hs⟩, h.low, ⟨h.gle.1, Nat.le_trans h.gle.2 hs⟩, fun a b x => ?_, h.rest, h.st, h.np⟩
  obtain ⟨o, o', h1, h2, h3⟩ := h.cont a b x
  exact ⟨o, o', h1, (hk a b x).trans h2, h3⟩
def put (w : World) (b : Nat) (o : Obj) : World := { w with heap := w.heap.setIfInBounds b o }
theorem put_same {w : World} {b : Nat} {o : Obj} (h : b < w.heap.size) : (put w b o).heap[b]? = some o := by simp [put, h]
theorem put_ne {w : World} {a b : Nat} {o : Obj} (h : b ≠ a) : (put w b o).heap[a]? = w.heap[a]? := by simp [put, Array.getElem?_setIfInBounds_ne h]
theorem put_size {w : World} {b : Nat} {o : Obj} : (put w b o).heap.size = w.heap.size := by simp [put]
/-- The ghost's block turned. -/
theorem WRel.put (h : WRel S K R G St w W) {b b' : Nat} (hb : R b b') {o o' : Obj} (hW : W.heap[b']? = some o') (ho : ObR S K R o o') (hst : ∀ a, St' a → a ≠ b → St a) (hb2 : St' b → ∃ c T hi, o = .cells c T (0, hi) ∧ c.size ≤ hi) : WRel S K R G St' (Mt.put w b o) W := by
  have hlt := (h.ltR b b' hb).1
  refine ⟨h.inj, h.inj', fun a c x => by rw [put_size]; exact h.lt a c x, h.low, by rw [put_size]; exact h.gle, fun a c x => ?_, fun a c x hn => ?_, fun a x => ?_, ?_⟩
  · by_cases e : b = a
    · subst e
      have := h.inj b b' c (.inl hb) (.inl x)
      subst this
      exact ⟨o, o', put_same hlt, hW, ho⟩
    · obtain ⟨y, y', h1, h2, h3⟩ := h.cont a c x
      exact ⟨y, y', (put_ne e).trans h1, h2, h3⟩
  · have e : b ≠ a := fun e => hn b' (e ▸ hb)
    exact (put_ne e).trans (h.rest a c x hn)
  · by_cases e : b = a
    · subst e
      obtain ⟨c, T, hi, e1, e2⟩ := hb2 x
      exact ⟨⟨b', hb⟩, c, T, hi, (put_same hlt).trans (by rw [e1]), e2⟩
    · obtain ⟨y, c, T, hi, h1, h2⟩ := h.st a (hst a x fun e2 => e e2.symm)
      exact ⟨y, c, T, hi, (put_ne e).trans h1, h2⟩
  · intro a c e hx
    by_cases ea : b = a
    · subst ea
      rw [put_same hlt] at hx
      obtain rfl := Option.some.inj hx
      exact ho.live c e rfl
    · rw [put_ne ea] at hx
      exact h.np a c e hx
theorem WRel.subSt (h : WRel S K R G St w W) (hs : ∀ a, St' a → St a) : WRel S K R G St' w W := ⟨h.inj, h.inj', h.lt, h.low, h.gle, h.cont, h.rest, fun a x => h.st a (hs a x), h.np⟩
theorem heap_push (w : World) (o : Obj) : (w.alloc o).heap[w.heap.size]? = some o := by unfold World.alloc; simp
theorem heap_push_lt {w : World} {o : Obj} {a : Nat} (h : a < w.heap.size) : (w.alloc o).heap[a]? = w.heap[a]? := by unfold World.alloc; simp [Array.getElem?_push, Nat.ne_of_lt h]
theorem size_push (w : World) (o : Obj) : (w.alloc o).heap.size = w.heap.size + 1 := by unfold World.alloc; simp
/-- One more channel known. -/
theorem WRel.pushK (h : WRel S K R G St w W) {N : Nat} (hN : N < W.heap.size) (hf : ∀ a, ¬ (R.or K) a N) : WRel S (K.add w.heap.size N) R G St (w.alloc waste) W := by
  have hlt : ∀ a b, R.or K a b → a ≠ w.heap.size := fun a b x => Nat.ne_of_lt (h.lt a b x).1
  have lift : ∀ a, (∃ b, R.or K a b) → (w.alloc waste).heap[a]? = w.heap[a]? := fun a ⟨b, x⟩ => heap_push_lt (h.lt a b x).1
  refine ⟨?_, ?_, ?_, h.low, ⟨by rw [size_push]; exact Nat.le_succ_of_le h.gle.1, h.gle.2⟩, fun a b x => ?_, ?_, fun a x => ?_, h.np.push (by unfold waste; simp)⟩
  · rintro a b c (x | x | ⟨rfl, rfl⟩) (y | y | ⟨e, rfl⟩)
    · exact h.inj a b c (.inl x) (.inl y)
    · exact h.inj a b c (.inl x) (.inr y)
    · exact absurd e (hlt a b (.inl x))
    · exact h.inj a b c (.inr x) (.inl y)
    · exact h.inj a b c (.inr x) (.inr y)
    · exact absurd e (hlt a b (.inr x))
    · exact absurd rfl (hlt _ c (.inl y))
    · exact absurd rfl (hlt _ c (.inr y))
    · rfl
  · rintro a b c (x | x | ⟨rfl, rfl⟩) (y | y | ⟨rfl, e⟩)
    · exact h.inj' a b c (.inl x) (.inl y)
    · exact h.inj' a b c (.inl x) (.inr y)
    · exact absurd (e ▸ .inl x) (hf a)
    · exact h.inj' a b c (.inr x) (.inl y)
    · exact h.inj' a b c (.inr x) (.inr y)
    · exact absurd (e ▸ .inr x) (hf a)
    · exact absurd (.inl y) (hf b)
    · exact absurd (.inr y) (hf b)
    · rfl
  · rintro a b (x | x | ⟨rfl, rfl⟩)
    · exact ⟨by rw [size_push]; exact Nat.lt_succ_of_lt (h.lt a b (.inl x)).1, (h.lt a b (.inl x)).2⟩
    · exact ⟨by rw [size_push]; exact Nat.lt_succ_of_lt (h.lt a b (.inr x)).1, (h.lt a b (.inr x)).2⟩
    · exact ⟨by rw [size_push]; omega, hN⟩
  · obtain ⟨o, o', h1, h2, h3⟩ := h.cont a b x
    exact ⟨o, o', (lift a ⟨b, .inl x⟩).trans h1, h2, ObR.monoK (Pr.le_add _ _ _) h3⟩
  · rintro a b (x | ⟨rfl, rfl⟩) hn
    · exact (lift a ⟨b, .inr x⟩).trans (h.rest a b x hn)
    · exact heap_push w waste
  · obtain ⟨⟨b, y⟩, c, T, hi, h1, h2⟩ := h.st a x
    exact ⟨⟨b, y⟩, c, T, hi, (lift a ⟨b, .inl y⟩).trans h1, h2⟩
/-- One more block related. -/
theorem WRel.pushR (h : WRel S K R G St w W) {N : Nat} (hG : G ≤ N) (hf : ∀ a, ¬ (R.or K) a N) {o o' : Obj} (hW : W.heap[N]? = some o') (ho : ObR S K (R.add w.heap.size N) o o') (hst : ∀ a, St' a → a ≠ w.heap.size → St a) (hs2 : St' w.heap.size → ∃ c T hi, o = .cells c T (0, hi) ∧ c.size ≤ hi) :
    WRel S K (R.add w.heap.size N) G St' (w.alloc o) W := by
  have hN : N < W.heap.size := (Array.getElem?_eq_some_iff.1 hW).1
  have hlt : ∀ a b, R.or K a b → a ≠ w.heap.size := fun a b x => Nat.ne_of_lt (h.lt a b x).1
  have lift : ∀ a, (∃ b, R.or K a b) → (w.alloc o).heap[a]? = w.heap[a]? := fun a ⟨b, x⟩ => heap_push_lt (h.lt a b x).1
  refine ⟨?_, ?_, ?_, ?_, ⟨by rw [size_push]; exact Nat.le_succ_of_le h.gle.1, h.gle.2⟩, ?_, fun a b x hn => ?_, fun a x => ?_, h.np.push ho.live⟩
  · rintro a b c ((x | ⟨rfl, rfl⟩) | x) ((y | ⟨e, rfl⟩) | y)
    · exact h.inj a b c (.inl x) (.inl y)
    · exact absurd e (hlt a b (.inl x))
    · exact h.inj a b c (.inl x) (.inr y)
    · exact absurd rfl (hlt _ c (.inl y))
    · rfl
    · exact absurd rfl (hlt _ c (.inr y))
    · exact h.inj a b c (.inr x) (.inl y)
    · exact absurd e (hlt a b (.inr x))
    · exact h.inj a b c (.inr x) (.inr y)
  · rintro a b c ((x | ⟨rfl, rfl⟩) | x) ((y | ⟨rfl, e⟩) | y)
    · exact h.inj' a b c (.inl x) (.inl y)
    · exact absurd (e ▸ .inl x) (hf a)
    · exact h.inj' a b c (.inl x) (.inr y)
    · exact absurd (.inl y) (hf b)
    · rfl
    · exact absurd (.inr y) (hf b)
    · exact h.inj' a b c (.inr x) (.inl y)
    · exact absurd (e ▸ .inr x) (hf a)
    · exact h.inj' a b c (.inr x) (.inr y)
  · rintro a b ((x | ⟨rfl, rfl⟩) | x)
    · exact ⟨by rw [size_push]; exact Nat.lt_succ_of_lt (h.lt a b (.inl x)).1, (h.lt a b (.inl x)).2⟩
    · exact ⟨by rw [size_push]; omega, hN⟩
    · exact ⟨by rw [size_push]; exact Nat.lt_succ_of_lt (h.lt a b (.inr x)).1, (h.lt a b (.inr x)).2⟩
  · rintro a b (x | ⟨rfl, rfl⟩)
    · exact h.low a b x
    · have := h.gle; constructor
      · constructor <;> intro <;> omega
      · intro; omega
  · rintro a b (x | ⟨rfl, rfl⟩)
    · obtain ⟨y, y', h1, h2, h3⟩ := h.cont a b x
      exact ⟨y, y', (lift a ⟨b, .inl x⟩).trans h1, h2, h3.mono (Pr.le_add _ _ _)⟩
    · exact ⟨o, o', heap_push w o, hW, ho⟩
  · exact (lift a ⟨b, .inr x⟩).trans (h.rest a b x fun c y => hn c (.inl y))
  · by_cases e : a = w.heap.size
    · subst e
      obtain ⟨c, T, hi, e1, e2⟩ := hs2 x
      exact ⟨⟨N, .inr ⟨rfl, rfl⟩⟩, c, T, hi, (heap_push w o).trans (by rw [e1]), e2⟩
    · obtain ⟨⟨b, y⟩, c, T, hi, h1, h2⟩ := h.st a (hst a x e)
      exact ⟨⟨b, .inl y⟩, c, T, hi, (lift a ⟨b, .inl y⟩).trans h1, h2⟩
end
/-! ### goroutine 0's invariant -/
structure IM (W0 : World) (St : Nat → Prop) (Shun : Loc → Prop) (Wg : Nat) (SS : Nat → Prop) (R : Pr) (τ : Terr) (W : World) : Prop where
  kp : Kp W0 R St W
  sh : Sh W0.heap.size Shun R W
  still : τ.still = SS
  wg : Wg < W.heap.size
  own : ∀ b, τ.own b → b ≠ Wg
  rel : ∀ a b, R a b → b ≠ Wg
section
variable {L : Type} {C : Cx L} {W0 : World} {St : Nat → Prop} {Shun : Loc → Prop} {SS : Nat → Prop}
theorem im_ok (hC : C.I = IM W0 St Shun C.Wg SS) (hst : ∀ a, St a → C.St a) (hSS : ∀ b, b < W0.heap.size → SS b) : IOk C := by
  refine ⟨fun R τ W W₁ h s => ?_, fun R τ W R1 W1 h ht hs => ?_, fun R τ W h => ?_⟩ <;> rw [hC] at *
  · refine ⟨⟨s.os.trans h.kp.os, s.tape.trans h.kp.tape, s.output.trans h.kp.output, Nat.le_trans h.kp.size s.size, fun b hb => (s.keep b (.inr (by rw [h.still]; exact hSS b hb))).trans (h.kp.block b hb), h.kp.old⟩, ⟨h.sh.old, h.sh.rel, fun l b hl hb => h.sh.new l b hl (Nat.le_trans s.size hb)⟩, h.still, Nat.lt_of_lt_of_le h.wg s.size, h.own, h.rel⟩
  · refine ⟨⟨hs.os.trans h.kp.os, hs.tape.trans h.kp.tape, hs.output.trans h.kp.output, Nat.le_trans h.kp.size hs.size, fun b hb => ?_, fun a b x hb => ?_⟩, ⟨h.sh.old, fun a b x l hl => ?_, fun l b hl hb => h.sh.new l b hl (Nat.le_trans hs.size hb)⟩, h.still, Nat.lt_of_lt_of_le h.wg hs.size, fun b hb => ?_, fun a b x => ?_⟩
    · rw [hs.keep b (Nat.lt_of_lt_of_le hb h.kp.size) (fun a x => hst a (h.kp.old a b x hb))]
      exact h.kp.block b hb
    · rcases hs.new a b x with y | ⟨y, _⟩
      · exact h.kp.old a b y hb
      · have := h.kp.size; omega
    · rcases hs.new a b x with y | ⟨y, _⟩
      · exact h.sh.rel a b y l hl
      · exact h.sh.new l b hl y
    · rcases hb with hb | ⟨hb, _⟩
      · exact h.own b hb
      · have := h.wg; omega
    · rcases hs.new a b x with y | ⟨y, _⟩
      · exact h.rel a b y
      · have := h.wg; omega
  · exact ⟨fun e => h.own _ e rfl, h.wg⟩
theorem setCell_ne (W : World) (a : Addr) (v : Value) {b : Nat} (h : b ≠ a.block) : (W.setCell a v).heap[b]? = W.heap[b]? := (aside_setCell W a v).block b h
theorem setCell_size (W : World) (a : Addr) (v : Value) : (W.setCell a v).heap.size = W.heap.size := (aside_setCell W a v).size
theorem IM.cell {R : Pr} {τ : Terr} {W : World} {Wg : Nat} (h : IM W0 St Shun Wg SS R τ W) (hW : W0.heap.size ≤ Wg) {a : Addr} (ha : a.block = Wg) (v : Value) : IM W0 St Shun Wg SS R τ (W.setCell a v) := by
  have hA := aside_setCell W a v
  refine ⟨⟨hA.os.trans h.kp.os, hA.tape.trans h.kp.tape, hA.output.trans h.kp.output, by rw [setCell_size]; exact h.kp.size, fun b hb => (setCell_ne W a v (by omega)).trans (h.kp.block b hb), h.kp.old⟩, ⟨h.sh.old, h.sh.rel, fun l b hl hb => h.sh.new l b hl (by rw [setCell_size] at hb; exact hb)⟩, h.still, by rw [setCell_size]; exact h.wg, h.own, h.rel⟩
end
end Go.Mt
namespace Go.Mt
open Go.Conc Go.Tt
open Go.ConcR (KK wgBlock WgAt stA smA rd wr DC0)
set_option linter.unusedVariables false
section
variable {L : Type} {C : Cx L} {l : L}
theorem BO.regs (hI : IOk C) {fn : FuncId} {tmps : Array Value} {k : List Item} {w : World} {id : Nat} {ops : Array Oper} (is : List Nat) (hr : List.range ops.size = is) (h : BO C l ⟨fn, tmps, .inRegion ops is :: k, false⟩ w) : BO C l ⟨fn, tmps, .code (.region id ops false) :: k, false⟩ w := BO.reg hI (by rw [hr]; exact h)
/-- The frame's deferred calls, one more. -/
def Cx.dfr (C : Cx L) (d : Deferred) : Cx L := { C with ds := ⟨d :: C.ds.ds, C.ds.kd, C.ds.ok⟩ }
theorem IOk.dfr (hI : IOk C) (d : Deferred) : IOk (C.dfr d) := ⟨hI.suf, hI.step, hI.wg⟩
theorem defer_step {p : Program} {main : Bool} {b : Frame} {a : Go.Act} {k : List Item} {cs : List Frame} {w : World} {ops : Array Oper} {i : Nat} {rest : List Nat} {o : Oper} {d : Deferred} (ho : ops[i]? = some o) (hw : Region.wanted o (yielded ops a.tmps) = true) (hk : b.kind ≠ .early) (hdst : o.dst = none)
    (hr : (execOp a.eval o).run p w = .ok (.defer d) w) (he : (execOp a.eval o).events p w #[] = #[]) :
    stepG p main (G (b.at a (.inRegion ops (i :: rest) :: k)) cs) w = .go (G (b.at ⟨a.tmps, d :: a.defers⟩ (.inRegion ops rest :: k)) cs) w #[] := by
  have hfin : (b.at ⟨a.tmps, d :: a.defers⟩ (.inRegion ops (i :: rest) :: k)).finish undef = b.at ⟨a.tmps, d :: a.defers⟩ (.inRegion ops rest :: k) := by rw [Frame.finish_at, ho]; simp [hdst, Go.Act.put]
  have hk' : (b.kind == CallKind.early) = false := by simpa using hk
  rw [stepG_oper ho hw, ← hfin]
  simp [stepG.apply, hr, he, G, Frame.at, hk', GStep.after, seen_none]
theorem BO.defer (hI : IOk C) {fn : FuncId} {tmps : Array Value} {ops : Array Oper} {i : Nat} {rest : List Nat} {k : List Item} {w : World} {o : Oper} {d : Deferred} (ho : ops[i]? = some o) (hwt : Region.wanted o (yielded ops tmps) = true) (hdst : o.dst = none)
    (hx : ∀ R w W tmps', C.Rel R w W → ArR (SF C.fs) C.K R tmps tmps' → (∀ x ∈ C.pin, tmps'.getD x.1 undef = x.2) → ∀ W₁, (execOp (Go.Act.mk tmps' C.ds.ds).eval o).run C.p W₁ = .ok (.defer d) W₁ ∧ (execOp (Go.Act.mk tmps' C.ds.ds).eval o).events C.p W₁ #[] = #[])
    (h : BO (C.dfr d) l ⟨fn, tmps, .inRegion ops rest :: k, false⟩ w) : BO C l ⟨fn, tmps, .inRegion ops (i :: rest) :: k, false⟩ w := by
  intro R W m' τ hw hm ht hi
  obtain ⟨fn', tmps', todo', ret'⟩ := m'
  obtain rfl := hm.fn
  obtain rfl := hm.todo
  obtain rfl := hm.ret
  rw [fx_at]
  refine beh_silent rfl rfl (g' := G ((C.ds.base fn).at ⟨tmps', d :: C.ds.ds⟩ (.inRegion ops rest :: k)) C.base) (fun W₁ s => ?_) fun W₁ s => ?_
  · obtain ⟨h1, h2⟩ := hx R w W tmps' hw hm.tmps hm.pins W₁
    exact defer_step ho (wanted_rel (C := C) hm.tmps hwt) C.ds.ok hdst h1 h2
  · have := h R W₁ ⟨fn, tmps', .inRegion ops rest :: k, false⟩ τ (Cx.Rel.suf (C := C) hw ht s) ⟨rfl, rfl, rfl, hm.tmps, hm.pins⟩ ht (hI.suf _ _ _ _ hi s)
    rw [fx_at] at this
    exact this
theorem exec_deferF {p : Program} {o : Oper} {f : FuncId} {as : Array Operand} {ats : Array TypeId} {ρ : Operand → Value} (hop : o.op = .defer { callee := .value (.func f), args := as, argTypes := ats }) (hρ : ρ (.func f) = .func (.func f) #[] #[]) (w : World) :
    (execOp ρ o).run p w = .ok (.defer (dcall f (as.map ρ))) w ∧ (execOp ρ o).events p w #[] = #[] := by
  obtain ⟨dst, op', type, pos, after, guard⟩ := o
  simp only at hop
  subst hop
  constructor
  · simp [execOp, resolve, Deferred.ofValue, hρ, dcall, bind, Sem.bind, pure, Sem.run]
  · simp [execOp, resolve, Deferred.ofValue, hρ, dcall, bind, Sem.bind, pure, Sem.run, Sem.events, Sem.runT]
theorem exec_deferC {p : Program} {o : Oper} {x : Tmp} {ats : Array TypeId} {ρ : Operand → Value} {c : Nat} (hop : o.op = .defer { callee := .builtin .close, args := #[.tmp x], argTypes := ats }) (hx : ρ (.tmp x) = .chan (some c)) (w : World) :
    (execOp ρ o).run p w = .ok (.defer (closeD ats o.type #[false] c)) w ∧ (execOp ρ o).events p w #[] = #[] := by
  obtain ⟨dst, op', type, pos, after, guard⟩ := o
  simp only at hop
  subst hop
  constructor
  · simp [execOp, resolve, hx, closeD, bind, Sem.bind, pure, Sem.run]
  · simp [execOp, resolve, hx, closeD, bind, Sem.bind, pure, Sem.run, Sem.events, Sem.runT]
/-- A child's invariant. -/
structure IC (ty : TypeId) (Wg c : Nat) (R : Pr) (τ : Terr) (W : World) : Prop where
  pass : τ.pass c
  own : ¬ τ.own Wg
  lt : Wg < W.heap.size
  live : WgLive ty Wg W
theorem ic_ok {c : Nat} (hC : C.I = IC C.ty C.Wg c) : IOk C := by
  refine ⟨fun R τ W W₁ h s => ?_, fun R τ W R1 W1 h ht hs => ?_, fun R τ W h => ?_⟩ <;> rw [hC] at *
  · exact ⟨h.pass, h.own, Nat.lt_of_lt_of_le h.lt s.size, s.live h.live⟩
  · refine ⟨h.pass, fun e => e.elim h.own fun x => ?_, Nat.lt_of_lt_of_le h.lt hs.size, ?_⟩
    · have := h.lt; omega
    · obtain ⟨a, b, hl⟩ := h.live
      exact ⟨a, b, (hs.keep C.Wg h.lt fun a x => Classical.byContradiction fun z => h.own ((ht a _ x).2 z)).trans hl⟩
  · exact ⟨h.own, h.lt⟩
/-- Goroutine 0's Fin bears silent steps. -/
theorem fin_goes {p : Program} {Post : Value → World → Prop} {Shun : Loc → Prop} : ∀ (n : Nat) (g : Goroutine) (w : World), Goes p true AtRel DC0 (fun g w => J p Post Shun w.heap.size g w) n g w → J p Post Shun w.heap.size g w := by
  intro n
  induction n with
  | zero => exact fun g w h => by have := h w ⟨w.drawn, rfl⟩; exact this
  | succ n ih =>
    intro g w h
    rcases h with h | ⟨hs, h⟩
    · have := h w ⟨w.drawn, rfl⟩; exact this
    · refine J.own hs fun d => ?_
      obtain ⟨g₁, w', es, hgo, ⟨e1, e2⟩, hg⟩ := goes_elim (h (w.at d) ⟨d, rfl⟩)
      subst e1 e2
      exact ⟨g₁, _, #[], _, hgo, fun e he => by simp at he, Nat.le_refl _, ih _ _ hg⟩
theorem exec_load1 {p : Program} {o : Oper} {t : TypeId} {x : Operand} {ρ : Operand → Value} {a : Addr} {v : Value} {w : World} (hop : o.op = .load t x) (hx : ρ x = .pointer (some a)) (hagg : (isAgg t).run p w = .ok false w) (hc : w.cell? a = some v) : (execOp ρ o).run p w = .ok (.value v) w := by
  obtain ⟨dst, op', type, pos, after, guard⟩ := o
  simp only at hop
  subst hop
  simp [execOp, Instr.loadAt, hx, go_sem, loadVar, hagg, hc]
theorem exec_loadRow {p : Program} {o : Oper} {t T : TypeId} {x : Operand} {ρ : Operand → Value} {g : Nat} {cs : Array Value} {fr : Nat × Nat} {d : TypeDesc} {w : World} (hop : o.op = .load t x) (hx : ρ x = .pointer (some ⟨g, 0, none⟩)) (hg : w.heap[g]? = some (.cells cs T fr))
    (hu : p.underlying t = some d) (hd : (match d with | .struct _ | .array _ _ => true | _ => false) = true) (hi : (p.info? t).map (·.size) = some cs.size) : (execOp ρ o).run p w = .ok (.value (.agg cs)) w := by
  obtain ⟨dst, op', type, pos, after, guard⟩ := o
  simp only at hop
  subst hop
  have e : Instr.loadAt t (ρ x) = loadVar t ⟨g, 0, none⟩ := by rw [hx]; rfl
  have hv := run_loadVar_row w g T t cs fr d hg hu hd hi
  show Sem.run p (Sem.bind (Instr.loadAt t (ρ x)) (fun v => Sem.pure (Next.value v))) w = _
  rw [Sem.run_bind', e, hv]
  rfl
end
theorem run_bv {p : Program} {s : Sem Value} {w w' : World} {v : Value} (h : s.run p w = .ok v w') : Sem.run p (Sem.bind s (fun v => Sem.pure (Next.value v))) w = .ok (.value v) w' := by rw [Sem.run_bind', h]; rfl
theorem ev_bv {p : Program} {s : Sem Value} {w w' : World} {v : Value} {es es' : Array Event} (h : s.run p w = .ok v w') (he : s.events p w es = es') : Sem.events p (Sem.bind s (fun v => Sem.pure (Next.value v))) w es = es' := by rw [Sem.events_bind', h, Result.evThen_ok, he]; rfl
/-! ### goroutine 0 alone beside leavers, step by step -/
section
variable {p : Program} {Post : Value → World → Prop} {Shun : Loc → Prop}
theorem J.sil {B : Nat} {g g' : Goroutine} {w : World} (hg : g.status = .running) (hst : ∀ w, stepG p true g w = .go g' w #[]) (h : ∀ d, J p Post Shun B g' (w.at d)) : ∀ d, J p Post Shun B g (w.at d) := fun d =>
  J.own hg fun d' => ⟨g', w.at d', #[], B, hst _, fun e he => by simp at he, Nat.le_refl _, h d'⟩
theorem J.opv {b : Frame} {a : Go.Act} {ops : Array Oper} {i : Nat} {rest : List Nat} {k : List Item} {cs : List Frame} {w w' : World} {o : Oper} {v : Value} (ho : ops[i]? = some o) (hw : Region.wanted o (yielded ops a.tmps) = true) (hk : b.kind ≠ .early)
    (hr : ∀ d, (execOp a.eval o).run p (w.at d) = .ok (.value v) (w'.at d) ∨ ((execOp a.eval o).run p (w.at d) = .ok .skip (w'.at d) ∧ v = undef)) (he : ∀ d, ∀ e ∈ (execOp a.eval o).events p (w.at d) #[], EvL Shun w'.heap.size e) (hsz : w.heap.size ≤ w'.heap.size)
    (h : ∀ d, J p Post Shun w'.heap.size (G (b.at (a.put o.dst v) (.inRegion ops rest :: k)) cs) (w'.at d)) : ∀ d, J p Post Shun w.heap.size (G (b.at a (.inRegion ops (i :: rest) :: k)) cs) (w.at d) := fun d => by
  refine J.own rfl fun d' => ⟨_, w'.at d', listed p b.fn a o (w.at d'), w'.heap.size, ?_, fun e hx => he d' e (mem_listed' hx), hsz, h d'⟩
  rcases hr d' with h1 | ⟨h1, h2⟩
  · exact stepG_value ho hw hk h1
  · rw [h2]; exact stepG_none ho hw hk h1
  where mem_listed' {p : Program} {f : FuncId} {a : Go.Act} {o : Oper} {w : World} {e : Event} (h : e ∈ listed p f a o w) : e ∈ (execOp a.eval o).events p w #[] := mem_seen h
theorem J.opq {B : Nat} {b : Frame} {a : Go.Act} {ops : Array Oper} {i : Nat} {rest : List Nat} {k : List Item} {cs : List Frame} {w w' : World} {o : Oper} {v : Value} (ho : ops[i]? = some o) (hw : Region.wanted o (yielded ops a.tmps) = true) (hk : b.kind ≠ .early)
    (hr : ∀ d, (execOp a.eval o).run p (w.at d) = .ok (.value v) (w'.at d)) (he : ∀ d, ∀ e ∈ (execOp a.eval o).events p (w.at d) #[], False)
    (h : ∀ d, J p Post Shun B (G (b.at (a.put o.dst v) (.inRegion ops rest :: k)) cs) (w'.at d)) : ∀ d, J p Post Shun B (G (b.at a (.inRegion ops (i :: rest) :: k)) cs) (w.at d) := fun d =>
  J.own rfl fun d' => ⟨_, w'.at d', listed p b.fn a o (w.at d'), B, stepG_value ho hw hk (hr d'), fun e hx => (he d' e (mem_seen hx)).elim, Nat.le_refl _, h d'⟩
theorem evL_own {Shun : Loc → Prop} {B : Nat} {a : Addr} {wr sy : Bool} (hs : ¬ Shun (.cell a)) (hb : a.block < B) : EvL Shun B ⟨.cell a, wr, sy⟩ := by
  refine ⟨fun x hx hsh => ?_, by simp, by simp, ?_⟩
  · have : x.loc = .cell a := by
      cases wr <;> cases sy <;> simp only [MemAct.ofEvent, MemAct.touch?, Option.some.injEq] at hx <;> first | (subst hx; rfl) | (cases hx; done)
    exact absurd (this ▸ hsh) hs
  · cases wr <;> cases sy <;> exact hb
end
end Go.Mt
namespace Go.Mt
open Go.Conc Go.Tt
set_option linter.unusedVariables false
structure Blk where
  rb : Nat
  off : Nat
  cs : Array Value
  T : TypeId
  fz : Nat × Nat
def plainV (v : Value) : Prop := (∃ k n, v = .int k n) ∨ (∃ s, v = .string s) ∨ ∃ b, v = .bool b
theorem plain_vr {S : FuncId → Prop} {K R : Pr} {v : Value} (h : plainV v) : VR S K R v v := by
  rcases h with ⟨k, n, rfl⟩ | ⟨s, rfl⟩ | ⟨b, rfl⟩
  · exact .int k n
  · exact .string s
  · exact .bool b
theorem plain_eq {S : FuncId → Prop} {K R : Pr} {v v' : Value} (h : plainV v) (x : VR S K R v v') : v' = v := by
  rcases h with ⟨k, n, rfl⟩ | ⟨s, rfl⟩ | ⟨b, rfl⟩ <;> cases x <;> rfl
def srcOk (w : World) (A : Option Addr) : Option Blk → Prop
  | none => A = none
  | some b => A = some ⟨b.rb, b.off, none⟩ ∧ w.heap[b.rb]? = some (.cells b.cs b.T b.fz) ∧ ∀ v ∈ b.cs, plainV v
def frz (w : World) : Option Blk → World
  | none => w
  | some b => put w b.rb (.cells b.cs b.T (0, max b.cs.size b.fz.2))
def thaw (w : World) : Option Blk → World
  | none => w
  | some b => put w b.rb (.cells b.cs b.T b.fz)
def StF (St : Nat → Prop) (src : Option Blk) (a : Nat) : Prop := St a ∨ ∃ b, src = some b ∧ a = b.rb
theorem frz_size (w : World) (src : Option Blk) : (frz w src).heap.size = w.heap.size := by cases src <;> simp [frz, put_size]
theorem thaw_size (w : World) (src : Option Blk) : (thaw w src).heap.size = w.heap.size := by cases src <;> simp [thaw, put_size]
section
variable {S : FuncId → Prop} {K R : Pr} {G : Nat} {St : Nat → Prop} {w W W4 : World} {A : Option Addr} {src : Option Blk}
/-- The real slice's block. -/
theorem src_real (h : WRel S K R G St w W) {b : Blk} {b' : Nat} (hb : w.heap[b.rb]? = some (.cells b.cs b.T b.fz)) (hp : ∀ v ∈ b.cs, plainV v) (hR : R b.rb b') : ∃ fz', W.heap[b']? = some (.cells b.cs b.T fz') ∧ ∀ o, inFz fz' o → inFz b.fz o := by
  obtain ⟨o, o', h1, h2, h3⟩ := h.cont _ _ hR
  rw [hb] at h1
  obtain rfl := Option.some.inj h1
  cases h3 with
  | cells hc hf =>
    rename_i c' fz'
    have : c' = b.cs := by
      apply Array.ext
      · exact hc.1.symm
      · intro i h1 h2
        exact plain_eq (hp _ (Array.getElem_mem h2)) (hc.2 i _ _ (Array.getElem?_eq_getElem h2) (Array.getElem?_eq_getElem h1))
    subst this
    exact ⟨fz', h2, hf⟩
theorem ObR.plain {cs : Array Value} {T : TypeId} {fz fz' : Nat × Nat} (hp : ∀ v ∈ cs, plainV v) (hf : ∀ o, inFz fz' o → inFz fz o) : ObR S K R (.cells cs T fz) (.cells cs T fz') :=
  .cells ⟨rfl, fun i v v' h1 h2 => by
    rw [h1] at h2
    obtain rfl := Option.some.inj h2
    exact plain_vr (hp v (Array.mem_of_getElem? h1))⟩ hf
theorem frz_rel (h : WRel S K R G St w W) (hs : srcOk w A src) (hR : ∀ b, src = some b → ∃ b', R b.rb b') : WRel S K R G (StF St src) (frz w src) W := by
  cases src with
  | none => exact WRel.subSt (St' := StF St none) h fun a x => x.resolve_right fun ⟨b, e, _⟩ => by cases e
  | some b =>
    obtain ⟨b', hb'⟩ := hR b rfl
    obtain ⟨_, h2, h3⟩ := hs
    obtain ⟨fz', h4, h5⟩ := src_real h h2 h3 hb'
    refine WRel.put h hb' h4 (ObR.plain h3 fun o ho => ?_) (fun a x e => ?_) (fun _ => ⟨b.cs, b.T, _, rfl, Nat.le_max_left ..⟩)
    · have := h5 o ho
      unfold inFz at this ⊢
      simp only
      omega
    · exact x.resolve_right fun ⟨b0, e1, e2⟩ => e (by cases e1; exact e2)
theorem thaw_rel {R' K' : Pr} {wn Wn : World} (h : WRel S K R G St w W) (hs : srcOk w A src) (hle : R.le R') (hn : WRel S K' R' G (StF St src) wn Wn) (hst : ∀ b b', src = some b → R b.rb b' → Wn.heap[b']? = W.heap[b']?) (hR : ∀ b, src = some b → ∃ b', R b.rb b') : WRel S K' R' G St (thaw wn src) Wn := by
  cases src with
  | none => exact WRel.subSt hn fun a x => .inl x
  | some b =>
    obtain ⟨b', hb'⟩ := hR b rfl
    obtain ⟨_, h2, h3⟩ := hs
    obtain ⟨fz', h4, h5⟩ := src_real h h2 h3 hb'
    refine WRel.put hn (hle _ _ hb') ((hst b b' rfl hb').trans h4) (ObR.plain h3 h5) (fun a x e => .inl x) (fun x => ?_)
    obtain ⟨_, c, T, hi, h6, h7⟩ := h.st b.rb x
    rw [h2] at h6
    simp only [Option.some.injEq, Obj.cells.injEq] at h6
    obtain ⟨rfl, rfl, h8⟩ := h6
    exact ⟨b.cs, b.T, hi, by rw [h8], h7⟩
/-- Goroutine 0's ghost in the phase. -/
def ghostM (w : World) (src : Option Blk) (Tc : TypeId) : World := ((frz w src).alloc waste).alloc (.cells #[.chan (some w.heap.size)] Tc (0, 1))
def stM (St : Nat → Prop) (src : Option Blk) (w : World) (a : Nat) : Prop := StF St src a ∨ a = w.heap.size + 1
theorem main_rel (h : WRel S K R G St w W) (hs : srcOk w A src) (hR : ∀ b, src = some b → ∃ b', R b.rb b') {N1 N2 : Nat} {Tc : TypeId} (h1 : W.heap.size ≤ N1) (h2 : W.heap.size ≤ N2) (h12 : N1 ≠ N2) (hk : ∀ a b, R a b → W4.heap[b]? = W.heap[b]?) (hs1 : N1 < W4.heap.size) (hN2 : W4.heap[N2]? = some (.cells #[.chan (some N1)] Tc (0, 0))) :
    WRel S (K.add w.heap.size N1) (R.add (w.heap.size + 1) N2) G (stM St src w) (ghostM w src Tc) W4 := by
  have hsz : W.heap.size ≤ W4.heap.size := by omega
  have hlt : ∀ a b, (R.or K) a b → b < W.heap.size := fun a b x => (h.lt a b x).2
  have r1 := frz_rel h hs hR
  have r2 := WRel.real (W' := W4) r1 hk hsz
  have r3 := WRel.pushK r2 hs1 (fun a x => by have := hlt a _ x; omega)
  rw [frz_size] at r3
  have e1 : ((frz w src).alloc waste).heap.size = w.heap.size + 1 := by rw [size_push, frz_size]
  have r4 := WRel.pushR (St' := stM St src w) r3 (N := N2) (o := .cells #[.chan (some w.heap.size)] Tc (0, 1)) (by have := h.gle.2; omega) (fun a x => ?_) hN2 ?_ (fun a x e => ?_) (fun _ => ⟨_, _, 1, rfl, by simp⟩)
  · rw [e1] at r4; exact r4
  · rcases x with x | x | ⟨_, e⟩
    · have := hlt a _ (.inl x); omega
    · have := hlt a _ (.inr x); omega
    · exact h12 e.symm
  · refine .cells (ArR.one (.chan (.some (.inr (.inr ⟨rfl, rfl⟩))))) fun o ho => ?_
    unfold inFz at ho; simp only at ho; omega
  · rw [e1] at e
    exact x.resolve_right e
/-- The child's ghost. -/
abbrev P0 : Pr := fun _ _ => False
theorem WRel.none (h : WRel S K R G St w W) : WRel S P0 P0 G (fun _ => False) w W := by
  refine ⟨?_, ?_, ?_, ?_, h.gle, ?_, ?_, ?_, h.np⟩ <;> (intros; simp_all [Pr.or, P0])
def ghostC (w : World) (src : Option Blk) (Tc Ts : TypeId) (n cap : Nat) : World :=
  match src with
  | none => ((w.alloc waste).alloc (.cells #[.chan (some w.heap.size)] Tc (0, 1))).alloc (.cells #[.slice none n cap] Ts (0, 1))
  | some b => (((w.alloc waste).alloc (.cells #[.chan (some w.heap.size)] Tc (0, 1))).alloc (.cells b.cs b.T (0, max b.cs.size b.fz.2))).alloc (.cells #[.slice (some ⟨w.heap.size + 2, b.off, none⟩) n cap] Ts (0, 1))
def sliceC (w : World) (src : Option Blk) : Option Addr := src.map fun b => ⟨w.heap.size + 2, b.off, none⟩
def numC (w : World) (src : Option Blk) : Nat := match src with | none => w.heap.size + 2 | some _ => w.heap.size + 3
def relC (w : World) (src : Option Blk) (b' N0 N2 : Nat) : Pr :=
  match src with
  | none => (P0.add (w.heap.size + 1) N2).add (w.heap.size + 2) N0
  | some _ => ((P0.add (w.heap.size + 1) N2).add (w.heap.size + 2) b').add (w.heap.size + 3) N0
def stC (w : World) (a : Nat) : Prop := a = w.heap.size + 1 ∨ a = w.heap.size + 2 ∨ a = w.heap.size + 3
theorem child_rel (h : WRel S K R G St w W) (hs : srcOk w A src) {b' : Nat} (hR : ∀ b, src = some b → R b.rb b') (hlo : ∀ b, src = some b → G ≤ b.rb) {N0 N1 N2 n cap : Nat} {A' : Option Addr} {Tc Ts : TypeId} (hA : OaR R A A') (h0 : N0 = W.heap.size) (h1 : N1 = W.heap.size + 1) (h2 : N2 = W.heap.size + 2) (hk : ∀ a b, R a b → W4.heap[b]? = W.heap[b]?) (hs1 : N1 < W4.heap.size)
    (hN2 : W4.heap[N2]? = some (.cells #[.chan (some N1)] Tc (0, 0))) (hN0 : W4.heap[N0]? = some (.cells #[.slice A' n cap] Ts (0, 0))) :
    ∃ St', WRel S (P0.add w.heap.size N1) (relC w src b' N0 N2) G St' (ghostC w src Tc Ts n cap) W4 ∧ ∀ a b, relC w src b' N0 N2 a b → St' a := by
  have hsz : W.heap.size ≤ W4.heap.size := by omega
  have hgle := h.gle
  have r2 := WRel.real (W' := W4) (WRel.none h) (fun a b x => x.elim) hsz
  have r3 := WRel.pushK r2 hs1 (fun a x => x.elim id id)
  have e1 : (w.alloc waste).heap.size = w.heap.size + 1 := size_push _ _
  have r4 := WRel.pushR (St' := fun a => a = w.heap.size + 1) r3 (N := N2) (o := .cells #[.chan (some w.heap.size)] Tc (0, 1)) (by omega) (fun a x => ?_) hN2 ?_ (fun a x e => ?_) (fun _ => ⟨_, _, 1, rfl, by simp⟩)
  rotate_left
  · rcases x with x | x | ⟨_, e⟩
    · exact x
    · exact x
    · omega
  · refine .cells (ArR.one (.chan (.some (.inr (.inr ⟨rfl, rfl⟩))))) fun o ho => ?_
    unfold inFz at ho; simp only at ho; omega
  · rw [e1] at e; exact absurd x e
  rw [e1] at r4
  have e2 : ((w.alloc waste).alloc (.cells #[.chan (some w.heap.size)] Tc (0, 1))).heap.size = w.heap.size + 2 := by rw [size_push, e1]
  cases src with
  | none =>
    refine ⟨fun a => a = w.heap.size + 1 ∨ a = w.heap.size + 2, ?_, ?_⟩
    · obtain rfl : A = Option.none := hs
      cases hA
      have r5 := WRel.pushR (St' := fun a => a = w.heap.size + 1 ∨ a = w.heap.size + 2) r4 (N := N0) (o := .cells #[.slice .none n cap] Ts (0, 1)) (by omega) (fun a x => ?_) hN0 ?_ (fun a x e => ?_) (fun _ => ⟨_, _, 1, rfl, by simp⟩)
      · rw [e2] at r5; exact r5
      · rcases x with (x | ⟨_, e⟩) | x | ⟨_, e⟩
        · exact x
        · omega
        · exact x
        · omega
      · refine .cells (ArR.one (.slice .none)) fun o ho => ?_
        unfold inFz at ho; simp only at ho; omega
      · rw [e2] at e; exact x.resolve_right e
    · rintro a b ((x | ⟨rfl, _⟩) | ⟨rfl, _⟩)
      · exact x.elim
      · exact .inl rfl
      · exact .inr rfl
  | some b =>
    obtain ⟨rfl, hb2, hb3⟩ := hs
    have hRb := hR b rfl
    obtain ⟨fz', h4, h5⟩ := src_real h hb2 hb3 hRb
    have hblt := (h.ltR _ _ hRb).2
    have hlow := (h.low _ _ hRb).1
    have hA' : A' = Option.some ⟨b', b.off, Option.none⟩ := by
      cases hA with
      | some x => cases x with | mk x => rw [h.inj _ _ _ (.inl x) (.inl hRb)]
    subst hA'
    have hG : G ≤ b' := by have := hlo b rfl; omega
    refine ⟨fun a => a = w.heap.size + 1 ∨ a = w.heap.size + 2 ∨ a = w.heap.size + 3, ?_, ?_⟩
    · have r5 := WRel.pushR (St' := fun a => a = w.heap.size + 1 ∨ a = w.heap.size + 2) r4 (N := b') (o := .cells b.cs b.T (0, max b.cs.size b.fz.2)) hG (fun a x => ?_) ((hk _ _ hRb).trans h4) (ObR.plain hb3 fun o ho => ?_) (fun a x e => ?_) (fun _ => ⟨_, _, _, rfl, Nat.le_max_left ..⟩)
      rotate_left
      · rcases x with (x | ⟨_, e⟩) | x | ⟨_, e⟩
        · exact x
        · omega
        · exact x
        · omega
      · have := h5 o ho
        unfold inFz at this ⊢
        simp only
        omega
      · rw [e2] at e; exact x.resolve_right e
      rw [e2] at r5
      have e3 : (((w.alloc waste).alloc (.cells #[.chan (some w.heap.size)] Tc (0, 1))).alloc (.cells b.cs b.T (0, max b.cs.size b.fz.2))).heap.size = w.heap.size + 3 := by rw [size_push, e2]
      have r6 := WRel.pushR (St' := fun a => a = w.heap.size + 1 ∨ a = w.heap.size + 2 ∨ a = w.heap.size + 3) r5 (N := N0) (o := .cells #[.slice (some ⟨w.heap.size + 2, b.off, Option.none⟩) n cap] Ts (0, 1)) (by omega) (fun a x => ?_) hN0 ?_ (fun a x e => ?_) (fun _ => ⟨_, _, 1, rfl, by simp⟩)
      · rw [e3] at r6; exact r6
      · rcases x with ((x | ⟨_, e⟩) | ⟨_, e⟩) | x | ⟨_, e⟩
        · exact x
        · omega
        · omega
        · exact x
        · omega
      · refine .cells (ArR.one (.slice (.some (.mk (.inl (.inr ⟨rfl, rfl⟩)))))) fun o ho => ?_
        unfold inFz at ho; simp only at ho; omega
      · rw [e3] at e
        rcases x with x | x | x
        · exact .inl x
        · exact .inr x
        · exact absurd x e
    · rintro a c (((x | ⟨rfl, _⟩) | ⟨rfl, _⟩) | ⟨rfl, _⟩)
      · exact x.elim
      · exact .inl rfl
      · exact .inr (.inl rfl)
      · exact .inr (.inr rfl)
end
section
variable {L : Type} {C : Cx L} {W0 : World} {St : Nat → Prop} {Shun : Loc → Prop} {SS : Nat → Prop}
/-- .. and the group lives. -/
def IML (ty : TypeId) (W0 : World) (St : Nat → Prop) (Shun : Loc → Prop) (Wg : Nat) (SS : Nat → Prop) (R : Pr) (τ : Terr) (W : World) : Prop := IM W0 St Shun Wg SS R τ W ∧ WgLive ty Wg W
theorem iml_ok (hC : C.I = IML C.ty W0 St Shun C.Wg SS) (hst : ∀ a, St a → C.St a) (hSS : ∀ b, b < W0.heap.size → SS b) : IOk C := by
  have h0 : IOk { C with I := IM W0 St Shun C.Wg SS } := im_ok (C := { C with I := IM W0 St Shun C.Wg SS }) rfl hst hSS
  refine ⟨fun R τ W W₁ h s => ?_, fun R τ W R1 W1 h ht hs => ?_, fun R τ W h => ?_⟩ <;> rw [hC] at *
  · exact ⟨h0.suf R τ W W₁ h.1 s, s.live h.2⟩
  · refine ⟨h0.step R τ W R1 W1 h.1 ht hs, ?_⟩
    obtain ⟨a, b, hl⟩ := h.2
    exact ⟨a, b, (hs.keep C.Wg h.1.wg fun a x => Classical.byContradiction fun z => h.1.own _ ((ht a _ x).2 z) rfl).trans hl⟩
  · exact h0.wg R τ W h.1
/-- .. and what was related stays so; what is frozen stands. -/
structure IMX (W0 : World) (St : Nat → Prop) (Shun : Loc → Prop) (Wg : Nat) (SS : Nat → Prop) (R0 : Pr) (Fz : Nat → Prop) (Wf : World) (R : Pr) (τ : Terr) (W : World) : Prop where
  im : IM W0 St Shun Wg SS R τ W
  le : R0.le R
  fz : ∀ b, Fz b → b < W.heap.size ∧ W.heap[b]? = Wf.heap[b]? ∧ ¬ τ.own b ∧ b ≠ Wg
/-- An invariant that bears the group's turns. -/
structure IX (ty : TypeId) (Wg : Nat) (I : Pr → Terr → World → Prop) : Prop where
  suf : ∀ R τ W W₁, I R τ W → Suf ty Wg τ W W₁ → I R τ W₁
  cell : ∀ R τ W a v, I R τ W → a.block = Wg → I R τ (W.setCell a v)
  at_ : ∀ R τ W d, I R τ W → I R τ (W.at d)
  rel : ∀ R τ W, I R τ W → ∀ a b, R a b → b ≠ Wg
def withLive (ty : TypeId) (Wg : Nat) (I : Pr → Terr → World → Prop) : Pr → Terr → World → Prop := fun R τ W => I R τ W ∧ WgLive ty Wg W
theorem imx_ix {ty : TypeId} {W0 : World} {St : Nat → Prop} {Shun : Loc → Prop} {Wg : Nat} {SS : Nat → Prop} {R0 : Pr} {Fz : Nat → Prop} {Wf : World} (hSS : ∀ b, b < W0.heap.size → SS b) (hF : ∀ b, Fz b → SS b) (hlow : W0.heap.size ≤ Wg) : IX ty Wg (IMX W0 St Shun Wg SS R0 Fz Wf) := by
  refine ⟨fun R τ W W₁ h s => ?_, fun R τ W a v h ha => ?_, fun R τ W d h => ?_, fun R τ W h => h.im.rel⟩
  · have h0 : IOk (L := Unit) ⟨default, fun _ => false, fun _ => false, ty, Wg, ⟨fun _ => .wait, fun _ _ => True, fun _ => false, fun _ => True, fun _ _ => True⟩, fun _ _ => True, true, [], .nil, fun _ _ => False, fun _ => True, IM W0 St Shun Wg SS, []⟩ := im_ok rfl (fun _ _ => trivial) hSS
    refine ⟨h0.suf R τ W W₁ h.im s, h.le, fun b hb => ?_⟩
    obtain ⟨f1, f2, f3, f4⟩ := h.fz b hb
    exact ⟨Nat.lt_of_lt_of_le f1 s.size, (s.keep b (.inr (by rw [h.im.still]; exact hF b hb))).trans f2, f3, f4⟩
  · refine ⟨IM.cell h.im hlow ha v, h.le, fun b hb => ?_⟩
    obtain ⟨f1, f2, f3, f4⟩ := h.fz b hb
    exact ⟨by rw [setCell_size]; exact f1, (setCell_ne W a v (by rw [ha]; exact f4)).trans f2, f3, f4⟩
  · exact ⟨⟨⟨h.im.kp.os, h.im.kp.tape, h.im.kp.output, h.im.kp.size, h.im.kp.block, h.im.kp.old⟩, ⟨h.im.sh.old, h.im.sh.rel, h.im.sh.new⟩, h.im.still, h.im.wg, h.im.own, h.im.rel⟩, h.le, h.fz⟩
theorem imx_ok {R0 : Pr} {Fz : Nat → Prop} {Wf : World} (hC : C.I = withLive C.ty C.Wg (IMX W0 St Shun C.Wg SS R0 Fz Wf)) (hst : ∀ a, St a → C.St a) (hSS : ∀ b, b < W0.heap.size → SS b) (hF : ∀ b, Fz b → SS b) (hlow : W0.heap.size ≤ C.Wg) : IOk C := by
  have h0 : IOk { C with I := IM W0 St Shun C.Wg SS } := im_ok (C := { C with I := IM W0 St Shun C.Wg SS }) rfl hst hSS
  have hx := imx_ix (ty := C.ty) (St := St) (Shun := Shun) (R0 := R0) (Wf := Wf) hSS hF hlow
  refine ⟨fun R τ W W₁ h s => ?_, fun R τ W R1 W1 h ht hs => ?_, fun R τ W h => ?_⟩ <;> rw [hC] at *
  · exact ⟨hx.suf R τ W W₁ h.1 s, s.live h.2⟩
  · refine ⟨⟨h0.step R τ W R1 W1 h.1.im ht hs, h.1.le.trans hs.le, fun b hb => ?_⟩, ?_⟩
    · obtain ⟨f1, f2, f3, f4⟩ := h.1.fz b hb
      refine ⟨Nat.lt_of_lt_of_le f1 hs.size, (hs.keep b f1 fun a x => Classical.byContradiction fun z => f3 ((ht a _ x).2 z)).trans f2, fun e => e.elim f3 fun x => ?_, f4⟩
      omega
    · obtain ⟨a, b, hl⟩ := h.2
      exact ⟨a, b, (hs.keep C.Wg h.1.im.wg fun a x => Classical.byContradiction fun z => h.1.im.own _ ((ht a _ x).2 z) rfl).trans hl⟩
  · exact h0.wg R τ W h.1.im
end
end Go.Mt
namespace Go.Mt
open Go.Conc Go.Tt
set_option linter.unusedVariables false
section
variable {p : Program} {op gs gs₁ fs : FuncId → Bool} {St : Nat → Prop} {W0 : World} {Post : Value → World → Prop}
/-- A CALL of a function at whose text the judgement goes on. -/
theorem JO.callN (L : Lv p op gs gs₁ fs) {m : Fm} {ms : List Fm} {w : World} {ops : Array Oper} {i : Nat} {rest : List Nat} {k : List Item} {o : Oper} {f : FuncId} {args : Array Operand} {ats : Array TypeId} {fn : Func} {c : Code} (hr : m.ret = false) (htd : m.todo = .inRegion ops (i :: rest) :: k)
    (ho : ops[i]? = some o) (hwt : Region.wanted o (yielded ops m.tmps) = true) (hop : o.op = .call ⟨.value (.func f), args, ats⟩) (hof : op f = false) (hf : p.funcs[f]? = some fn) (hn : (fn.name == "runtime.NumGoroutine") = false) (hb : fn.body = some c)
    (hJ : JL p op gs fs St W0 Post ⟨f, args.map m.eval ++ Array.replicate (fn.ntmps - (args.map m.eval).size) undef, [.code c], false⟩ (m :: ms) w) : JL p op gs fs St W0 Post m ms w := by
  have hent : entF p f (args.map m.eval) = ⟨f, args.map m.eval ++ Array.replicate (fn.ntmps - (args.map m.eval).size) undef, [.code c], false⟩ := by simp [entF, hf, hb]
  rw [← hent] at hJ
  refine JO.one L.fit rfl (fun e => by rw [hr] at e; cases e) (fun T => ((entF p f (args.map m.eval), m :: ms), Tt.tp w T 0)) (fun T => ?_) (fun T K R y hoo => ?_) (fun T => hJ.tape T 0)
  · show (stepS p m ms).run p _ = _
    simp only [stepS, hr, Bool.false_eq_true, if_false, runS, htd, ho, Option.map_some, Option.getD_some, hwt, if_true]
    refine (Sem.run_bind' p _ _ _).trans ?_
    rw [(exec_call hop (fun g => rfl) hf hn hb (Tt.tp w T 0)).1]
    simp only [Result.andThen, opS, hf, hb, Pure.pure, Sem.run, hent]
  · obtain ⟨f', xs, xs', c, c', rest, rest', h1, h2, h3, h4, _⟩ := hoo.ex
    simp only [Prod.mk.injEq] at h4
    have h5 := congrArg Fm.fn h4.1
    rw [entF_fn, entF_fn] at h5
    have h6 : op f' = true := h1
    rw [← h5, hof] at h6; cases h6
end
/-! ### the beginning -/
def gBase (W : World) : World := { W with heap := Array.replicate W.heap.size waste }
/-- The ghost at the beginning: it knows one slice's block, frozen. -/
def gStart (W : World) : Option Blk → World
  | none => gBase W
  | some b => put (gBase W) b.rb (.cells b.cs b.T (0, max b.cs.size b.fz.2))
def R0 (src : Option Blk) : Pr := fun a b => ∃ s, src = some s ∧ a = s.rb ∧ b = s.rb
def St0 (src : Option Blk) : Nat → Prop := fun a => ∃ s, src = some s ∧ a = s.rb
theorem gStart_size (W : World) (src : Option Blk) : (gStart W src).heap.size = W.heap.size := by cases src <;> simp [gStart, gBase, put_size]
theorem gStart_at {W : World} {b : Blk} (h : b.rb < W.heap.size) : (gStart W (some b)).heap[b.rb]? = some (.cells b.cs b.T (0, max b.cs.size b.fz.2)) := by
  unfold gStart; rw [put_same (by simp [gBase, h])]
theorem gBase_np (W : World) : NoPend (gBase W) := by
  intro b c e h
  simp only [gBase, Array.getElem?_replicate] at h
  split at h
  · cases h
  · cases h
/-- What the ghost holds for a cell. -/
theorem ghostv {S : FuncId → Prop} {K R : Pr} : ∀ (n : Nat) (v : Value), SizeOf.sizeOf v < n → ∃ u, VR S K R u v ∧ (plainV v → u = v) := by
  intro n
  induction n with
  | zero => intro v h; omega
  | succ n ih =>
    intro v hv
    have hj : ∀ {v : Value}, Hid v → (∀ k m, v ≠ .int k m) → (∀ s, v ≠ .string s) → (∀ b, v ≠ .bool b) → ∃ u, VR S K R u v ∧ (plainV v → u = v) := fun h h1 h2 h3 =>
      ⟨.nilFunc, .junk h, fun x => by
        rcases x with ⟨k, m, e⟩ | ⟨s, e⟩ | ⟨b, e⟩
        · exact absurd e (h1 _ _)
        · exact absurd e (h2 _)
        · exact absurd e (h3 _)⟩
    have rows : ∀ xs : Array Value, SizeOf.sizeOf xs < n → ∃ us : Array Value, us.size = xs.size ∧ ∀ (i : Nat) (u v : Value), us[i]? = some u → xs[i]? = some v → VR S K R u v := fun xs hx => by
      have hex : ∀ x, ∃ u, x ∈ xs → VR S K R u x := fun x => by
        by_cases hm : x ∈ xs
        · obtain ⟨u, hu, _⟩ := ih x (Nat.lt_trans (Array.sizeOf_lt_of_mem hm) hx)
          exact ⟨u, fun _ => hu⟩
        · exact ⟨x, fun h => absurd h hm⟩
      refine ⟨xs.map fun x => (hex x).choose, by simp, fun i u v h1 h2 => ?_⟩
      rw [Array.getElem?_map, h2] at h1
      simp only [Option.map_some, Option.some.injEq] at h1
      subst h1
      exact (hex v).choose_spec (Array.mem_of_getElem? h2)
    cases v with
    | bool b => exact ⟨_, .bool b, fun _ => rfl⟩
    | int k m => exact ⟨_, .int k m, fun _ => rfl⟩
    | string s => exact ⟨_, .string s, fun _ => rfl⟩
    | nilIface => exact ⟨_, .nilIface, fun _ => rfl⟩
    | agg xs =>
      obtain ⟨us, h1, h2⟩ := rows xs (by simp at hv; omega)
      exact ⟨.agg us, .agg h1 h2, fun x => by rcases x with ⟨_, _, e⟩ | ⟨_, e⟩ | ⟨_, e⟩ <;> cases e⟩
    | tuple xs =>
      obtain ⟨us, h1, h2⟩ := rows xs (by simp at hv; omega)
      exact ⟨.tuple us, .tuple h1 h2, fun x => by rcases x with ⟨_, _, e⟩ | ⟨_, e⟩ | ⟨_, e⟩ <;> cases e⟩
    | _ => exact hj (by exact True.intro) (fun _ _ h => by cases h) (fun _ h => by cases h) (fun _ h => by cases h)
theorem start_rel {S : FuncId → Prop} {G : Nat} {W : World} {src : Option Blk} (hs : ∀ b, src = some b → ∃ c', W.heap[b.rb]? = some (.cells c' b.T b.fz) ∧ ArR S P0 (R0 src) b.cs c') (hG : G ≤ W.heap.size) : WRel S P0 (R0 src) G (St0 src) (gStart W src) W := by
  refine ⟨?_, ?_, ?_, ?_, ⟨by rw [gStart_size]; exact hG, hG⟩, ?_, fun a b x => x.elim, ?_, ?_⟩
  · rintro a b c (⟨s, e, rfl, rfl⟩ | x) (⟨s', e', h1, rfl⟩ | y)
    · exact h1
    · exact y.elim
    · exact x.elim
    · exact x.elim
  · rintro a b c (⟨s, e, rfl, h0⟩ | x) (⟨s', e', rfl, h1⟩ | y)
    · exact h0.symm.trans h1
    · exact y.elim
    · exact x.elim
    · exact x.elim
  · rintro a b (⟨s, e, rfl, rfl⟩ | x)
    · obtain ⟨c', h1, _⟩ := hs s e
      have := (Array.getElem?_eq_some_iff.1 h1).1
      exact ⟨by rw [gStart_size]; exact this, this⟩
    · exact x.elim
  · rintro a b ⟨s, e, rfl, rfl⟩
    exact ⟨Iff.rfl, fun _ => rfl⟩
  · rintro a b ⟨s, e, rfl, rfl⟩
    subst e
    obtain ⟨c', h1, h2⟩ := hs s rfl
    refine ⟨_, _, gStart_at (Array.getElem?_eq_some_iff.1 h1).1, h1, .cells h2 fun o ho => ?_⟩
    unfold inFz at ho ⊢
    simp only
    omega
  · rintro a ⟨s, e, rfl⟩
    subst e
    obtain ⟨c', h1, _⟩ := hs s rfl
    exact ⟨⟨s.rb, s, rfl, rfl, rfl⟩, s.cs, s.T, _, gStart_at (Array.getElem?_eq_some_iff.1 h1).1, Nat.le_max_left ..⟩
  · cases src with
    | none => exact gBase_np W
    | some b =>
      intro x c e h
      by_cases hx : b.rb = x
      · subst hx
        obtain ⟨c', h1, _⟩ := hs b rfl
        rw [gStart_at (Array.getElem?_eq_some_iff.1 h1).1] at h
        cases h
      · unfold gStart at h
        rw [put_ne hx] at h
        exact gBase_np W x c e h
/-- What the ghost is told of a slice that came in. -/
theorem start_src {S : FuncId → Prop} {W : World} {A : Option Addr} (hA : ∀ a, A = some a → a.spot = none ∧ ∃ c T fz, W.heap[a.block]? = some (.cells c T fz)) :
    ∃ src, OaR (R0 src) A A ∧ (∀ b, src = some b → ∃ c', W.heap[b.rb]? = some (.cells c' b.T b.fz) ∧ ArR S P0 (R0 src) b.cs c') ∧
      ∀ a, A = some a → ∀ o v, W.cell? ⟨a.block, o, none⟩ = some v → plainV v → (gStart W src).cell? ⟨a.block, o, none⟩ = some v := by
  cases A with
  | none => exact ⟨none, .none, fun b e => (by cases e), fun a e => by cases e⟩
  | some a =>
    obtain ⟨hsp, c, T, fz, hb⟩ := hA a rfl
    let g : Value → Value := fun v => (ghostv (S := S) (K := P0) (R := fun x y => x = a.block ∧ y = a.block) (SizeOf.sizeOf v + 1) v (Nat.lt_succ_self _)).choose
    have hg : ∀ v, VR S P0 (fun x y => x = a.block ∧ y = a.block) (g v) v ∧ (plainV v → g v = v) := fun v => (ghostv (S := S) (K := P0) (R := fun x y => x = a.block ∧ y = a.block) (SizeOf.sizeOf v + 1) v (Nat.lt_succ_self _)).choose_spec
    refine ⟨some ⟨a.block, a.off, c.map g, T, fz⟩, ?_, fun b e => ?_, fun a' e o v hv hp => ?_⟩
    · obtain ⟨bl, of, sp⟩ := a
      exact .some (.mk ⟨_, rfl, rfl, rfl⟩)
    · cases e
      refine ⟨c, hb, by simp, fun i u v h1 h2 => ?_⟩
      have h1' : (c.map g)[i]? = some u := h1
      rw [Array.getElem?_map, h2] at h1'
      simp only [Option.map_some, Option.some.injEq] at h1'
      subst h1'
      exact (hg v).1.mono fun x y h => ⟨_, rfl, h.1, h.2⟩
    · cases e
      have hlt := (Array.getElem?_eq_some_iff.1 hb).1
      have h1 := gStart_at (W := W) (b := ⟨a.block, a.off, c.map g, T, fz⟩) hlt
      have h2 : c[o]? = some v := by
        have : W.cell? ⟨a.block, o, none⟩ = c[o]? := by simp [World.cell?, hb]
        rw [← this]; exact hv
      have h3 : (gStart W (some ⟨a.block, a.off, c.map g, T, fz⟩)).cell? ⟨a.block, o, none⟩ = (c.map g)[o]? := by
        simp only [World.cell?]
        have h1' : (gStart W (some ⟨a.block, a.off, c.map g, T, fz⟩)).heap[a.block]? = _ := h1
        rw [h1']; rfl
      rw [h3, Array.getElem?_map, h2]
      simp only [Option.map_some, Option.some.injEq]
      exact (hg v).2 hp
theorem past_start {Shun : Loc → Prop} {B : Nat} : Past Shun B #[] :=
  ⟨past_nil.clean, fun i a h => by simp [touchAt, Trace.act?] at h, past_nil.over, past_nil.hears, fun op h => by simp at h⟩
/-- THE BEGINNING OF A LAW'S RUN. -/
theorem J.start {p : Program} {op gs gs₁ fs : FuncId → Bool} {Post : Value → World → Prop} (L : Lv p op gs gs₁ fs) {f : FuncId} {fn : Func} {c : Code} (hg : gs f = true) (hof : op f = false) (hf : p.funcs[f]? = some fn) (hb : fn.body = some c) {W : World} {src : Option Blk} {xs args : Array Value}
    (hs : ∀ b, src = some b → ∃ c', W.heap[b.rb]? = some (.cells c' b.T b.fz) ∧ ArR (SF fs) P0 (R0 src) b.cs c') (hG : p.globals.size ≤ W.heap.size) (hxs : ArR (SF fs) P0 (R0 src) xs args)
    (h : JL p op gs fs (St0 src) W Post ⟨f, xs ++ Array.replicate (fn.ntmps - xs.size) undef, [.code c], false⟩ [] (gStart W src)) : Ends p Post (solo (G (Frame.enter p f args .normal) []) W) #[] := by
  obtain ⟨fn', c', g1, g2, g3, g4, g5⟩ := L.fit.fn f hg hof
  have g2' : p.funcs[f]? = some fn' := g2
  rw [hf] at g2'
  obtain rfl := Option.some.inj g2'
  rw [hb] at g4
  obtain rfl := Option.some.inj g4
  have hJ : J p Post (fun _ => False) W.heap.size (G (Frame.enter p f args .normal) []) W := by
    rw [enter_fr hf hb]
    refine h P0 (R0 src) W ⟨f, args ++ Array.replicate (fn.ntmps - args.size) undef, [.code c], false⟩ [] (fun _ => False) (start_rel hs hG) ⟨rfl, rfl, rfl, hxs.pad fn.ntmps, fun j hj => ?_, ⟨fn, fn, hf, hf, rfl, L.fit.res f hg hof fn hf⟩⟩ .nil ⟨fun _ _ _ _ => id, fun _ _ _ _ _ => id, fun _ _ _ _ => id⟩ ⟨rfl, rfl, rfl, Nat.le_refl _, fun _ _ => rfl, ?_⟩
    · simp only [List.mem_cons, List.not_mem_nil, or_false] at hj
      subst hj; exact g5
    · rintro a b ⟨s, e, rfl, rfl⟩ _
      exact ⟨s, e, rfl⟩
  rw [solo_eq_crowd]
  exact hJ #[_] #[] none (fun _ => 0) rfl ⟨fun i g hi h => by
    have := (Array.getElem?_eq_some_iff.1 h).1
    simp at this; omega, fun j _ => rfl⟩ past_start
end Go.Mt
