/-
 Part 3 of what stands behind the last text.
-/
import Derived.Conc.Own
import Derived.StepT
import Derived.Laws.Sem
import Derived.Test.YtkfafknliihabaaDoorDdsPq2
set_option linter.unusedSectionVars false
set_option linter.unusedSimpArgs false
set_option linter.unusedVariables false
namespace Go.Tt
abbrev Pr:=Nat -> Nat -> Prop
def Pr.le (R R' : Pr) : Prop:=∀ a b,R a b -> R' a b
theorem Pr.le.refl (R : Pr) : R.le R:=λ _ _ h => h
theorem Pr.le.trans {R R' R'' : Pr} (h : R.le R') (h' : R'.le R'') : R.le R'':=λ a b x => h' a b (h a b x)
def Pr.add (R : Pr) (n n' : Nat) : Pr:=λ a b => R a b \/ (a = n /\ b = n')
theorem Pr.le_add (R : Pr) (n n' : Nat) : R.le (R.add n n'):=λ _ _ h => .inl h
inductive AdR (R : Pr) : Addr -> Addr -> Prop
 | mk {b b' o : Nat} {s : Option Nat} : R b b' -> AdR R ⟨b,o,s⟩ ⟨b',o,s⟩
inductive OaR (R : Pr) : Option Addr -> Option Addr -> Prop
 | none : OaR R none none
 | some {a a' : Addr} : AdR R a a' -> OaR R (some a) (some a')
inductive OnR (R : Pr) : Option Nat -> Option Nat -> Prop
 | none : OnR R none none
 | some {a a' : Nat} : R a a' -> OnR R (some a) (some a')
def Pr.or (R K : Pr) : Pr:=λ a b => R a b \/ K a b
theorem Pr.or_mono {R R' K : Pr} (h : R.le R') : (R.or K).le (R'.or K):=λ a b x => x.imp (h a b) id
def Hid : Value -> Prop
 | .agg _ | .tuple _ | .bool _ | .nilIface => False
 | _ => True
inductive VR (S : FuncId -> Prop) (K R : Pr) : Value -> Value -> Prop
 | bool (b : Bool) : VR S K R (.bool b) (.bool b)
 | int (k : IntKind) (n : Int) : VR S K R (.int k n) (.int k n)
 | string (s : ByteArray) : VR S K R (.string s) (.string s)
 | nilFunc : VR S K R .nilFunc .nilFunc
 | nilIface : VR S K R .nilIface .nilIface
 | pointer {a a' : Option Addr} : OaR R a a' -> VR S K R (.pointer a) (.pointer a')
 | slice {a a' : Option Addr} {n c : Nat} : OaR R a a' -> VR S K R (.slice a n c) (.slice a' n c)
 | map {a a' : Option Nat} : OnR R a a' -> VR S K R (.map a) (.map a')
 | chan {a a' : Option Nat} : OnR (R.or K) a a' -> VR S K R (.chan a) (.chan a')
 | func {f : FuncId} {xs xs' ys ys' : Array Value} : S f -> xs.size = xs'.size -> (∀ (i : Nat) (v v' : Value),xs[i]? = some v -> xs'[i]? = some v' -> VR S K R v v') ->
   ys.size = ys'.size -> (∀ (i : Nat) (v v' : Value),ys[i]? = some v -> ys'[i]? = some v' -> VR S K R v v') -> VR S K R (.func (.func f) xs ys) (.func (.func f) xs' ys')
 | iface {t : TypeId} {v v' : Value} : VR S K R v v' -> VR S K R (.iface t v) (.iface t v')
 | agg {xs xs' : Array Value} : xs.size = xs'.size -> (∀ (i : Nat) (v v' : Value),xs[i]? = some v -> xs'[i]? = some v' -> VR S K R v v') -> VR S K R (.agg xs) (.agg xs')
 | tuple {xs xs' : Array Value} : xs.size = xs'.size -> (∀ (i : Nat) (v v' : Value),xs[i]? = some v -> xs'[i]? = some v' -> VR S K R v v') -> VR S K R (.tuple xs) (.tuple xs')
 | junk {v' : Value} : Hid v' -> VR S K R .nilFunc v'
def ArR (S : FuncId -> Prop) (K R : Pr) (xs xs' : Array Value) : Prop:=xs.size = xs'.size /\ ∀ (i : Nat) (v v' : Value),xs[i]? = some v -> xs'[i]? = some v' -> VR S K R v v'
section
variable {S : FuncId -> Prop} {K R R' : Pr}
theorem AdR.mono (h : R.le R') {a a' : Addr} (x : AdR R a a') : AdR R' a a':=by cases x with | mk x => exact .mk (h _ _ x)
theorem OaR.mono (h : R.le R') {a a' : Option Addr} (x : OaR R a a') : OaR R' a a':=by cases x with | none => exact .none | some x => exact .some (x.mono h)
theorem OnR.mono (h : R.le R') {a a' : Option Nat} (x : OnR R a a') : OnR R' a a':=by cases x with | none => exact .none | some x => exact .some (h _ _ x)
theorem VR.mono (h : R.le R') {v v' : Value} (x : VR S K R v v') : VR S K R' v v':=by
 induction x with
 | bool b => exact .bool b
 | int k n => exact .int k n
 | string s => exact .string s
 | nilFunc => exact .nilFunc
 | nilIface => exact .nilIface
 | pointer x => exact .pointer (x.mono h)
 | slice x => exact .slice (x.mono h)
 | map x => exact .map (x.mono h)
 | chan x => exact .chan (x.mono (Pr.or_mono h))
 | func s e1 _ e2 _ i1 i2 => exact .func s e1 i1 e2 i2
 | iface _ ih => exact .iface ih
 | agg e _ ih => exact .agg e ih
 | tuple e _ ih => exact .tuple e ih
 | junk h => exact .junk h
theorem ArR.mono (h : R.le R') {xs xs' : Array Value} (x : ArR S K R xs xs') : ArR S K R' xs xs':=⟨x.1,λ i v v' h1 h2 => (x.2 i v v' h1 h2).mono h⟩
theorem ArR.get {xs xs' : Array Value} (x : ArR S K R xs xs') {i : Nat} {v : Value} (h : xs[i]? = some v) : ∃ v',xs'[i]? = some v' /\ VR S K R v v':=by
 have hi : i < xs'.size:=by rw [<- x.1]; exact (Array.getElem?_eq_some_iff.1 h).1
 exact ⟨xs'[i],Array.getElem?_eq_getElem hi,x.2 i _ _ h (Array.getElem?_eq_getElem hi)⟩
theorem ArR.none {xs xs' : Array Value} (x : ArR S K R xs xs') {i : Nat} (h : xs[i]? = none) : xs'[i]? = none:=by
 rw [Array.getElem?_eq_none_iff] at h ⊢; rw [<- x.1]; exact h
theorem ArR.getD {xs xs' : Array Value} (x : ArR S K R xs xs') (i : Nat) {d d' : Value} (hd : VR S K R d d') : VR S K R (xs.getD i d) (xs'.getD i d'):=by
 rw [Array.getD_eq_getD_getElem?,Array.getD_eq_getD_getElem?]
 cases h : xs[i]? with
 | none => rw [x.none h]; exact hd
 | some v => obtain ⟨v',h',hv⟩:=x.get h; rw [h']; exact hv
theorem ArR.set {xs xs' : Array Value} (x : ArR S K R xs xs') (i : Nat) {v v' : Value} (hv : VR S K R v v') : ArR S K R (xs.setIfInBounds i v) (xs'.setIfInBounds i v'):=by
 refine ⟨by simp [x.1],λ j u u' h h' => ?_⟩
 by_cases e : i = j
 ·subst e
  rw [Array.getElem?_setIfInBounds] at h h'
  simp only [if_true] at h h'
  split at h <;> split at h' <;> simp_all
 ·rw [Array.getElem?_setIfInBounds_ne e] at h h'
  exact x.2 j u u' h h'
theorem ArR.push {xs xs' : Array Value} (x : ArR S K R xs xs') {v v' : Value} (hv : VR S K R v v') : ArR S K R (xs.push v) (xs'.push v'):=by
 refine ⟨by simp [x.1],λ j u u' h h' => ?_⟩
 rw [Array.getElem?_push] at h h'
 rw [<- x.1] at h'
 split at h
 ·rename_i e; rw [if_pos e] at h'; injection h with h; injection h' with h'; subst h h'; exact hv
 ·rename_i e; rw [if_neg e] at h'; exact x.2 j u u' h h'
theorem ArR.append {xs xs' ys ys' : Array Value} (x : ArR S K R xs xs') (y : ArR S K R ys ys') : ArR S K R (xs ++ ys) (xs' ++ ys'):=by
 refine ⟨by simp [x.1,y.1],λ j u u' h h' => ?_⟩
 rw [Array.getElem?_append] at h h'
 rw [<- x.1] at h'
 split at h
 ·rename_i e; rw [if_pos e] at h'; exact x.2 j u u' h h'
 ·rename_i e; rw [if_neg e] at h'; exact y.2 _ u u' h h'
theorem ArR.empty : ArR S K R #[] #[]:=⟨rfl,λ i v v' h => by simp at h⟩
theorem ArR.one {v v' : Value} (h : VR S K R v v') : ArR S K R #[v] #[v']:=ArR.empty.push h
theorem ArR.extract {xs xs' : Array Value} (x : ArR S K R xs xs') (i j : Nat) : ArR S K R (xs.extract i j) (xs'.extract i j):=by
 refine ⟨by simp [x.1],λ k u u' h h' => ?_⟩
 rw [Array.getElem?_extract] at h h'
 split at h
 ·rename_i e; rw [<- x.1,if_pos e] at h'; exact x.2 _ u u' h h'
 ·cases h
theorem VR.agg' {xs xs' : Array Value} (x : ArR S K R xs xs') : VR S K R (.agg xs) (.agg xs'):=.agg x.1 x.2
theorem VR.tuple' {xs xs' : Array Value} (x : ArR S K R xs xs') : VR S K R (.tuple xs) (.tuple xs'):=.tuple x.1 x.2
theorem VR.cells {v v' : Value} (x : VR S K R v v') : ArR S K R v.cells v'.cells:=by
 cases x with
 | agg e h => exact ⟨e,h⟩
 | bool b => exact .one (.bool b)
 | int k n => exact .one (.int k n)
 | string s => exact .one (.string s)
 | nilFunc => exact .one .nilFunc
 | nilIface => exact .one .nilIface
 | pointer x => exact .one (.pointer x)
 | slice x => exact .one (.slice x)
 | map x => exact .one (.map x)
 | chan x => exact .one (.chan x)
 | func s e1 h1 e2 h2 => exact .one (.func s e1 h1 e2 h2)
 | iface x => exact .one (.iface x)
 | tuple e h => exact .one (.tuple e h)
 | junk h =>
  have e : v'.cells = #[v']:=by cases v' <;> first | rfl | exact h.elim
  rw [e]; exact .one (.junk h)
end
end Go.Tt
namespace Go.Tt
structure Pair where
 c : Program
 fs : Array Func
 op : FuncId -> Bool
 lw : FuncId -> Bool
 gs : FuncId -> Bool
 dy : Bool
abbrev Pair.g (P : Pair) : Program:={ P.c with funcs:=P.fs }
abbrev Pair.underlying (P : Pair) (t : TypeId):=P.c.underlying t
abbrev Pair.info? (P : Pair) (t : TypeId):=P.c.info? t
abbrev Pair.globals (P : Pair):=P.c.globals
def tabOk (p : Program) (g : Nat) : Bool:=match p.globals[g]? with | some x => (match p.underlying x.type with | some (.array _ _) => true | _ => false) | none => false
structure Gp where
 n : Nat
 tab : Nat -> Bool
abbrev prGp (p : Program) : Gp:=⟨p.globals.size,tabOk p⟩
abbrev Pair.gp (P : Pair) : Gp:=prGp P.c
theorem Pair.underlying_g (P : Pair) (t : TypeId) : P.g.underlying t = P.c.underlying t:=rfl
theorem Pair.info_g (P : Pair) (t : TypeId) : P.g.info? t = P.c.info? t:=rfl
theorem Pair.cells_g (P : Pair) (t : TypeId) : P.g.cellsOf t = P.c.cellsOf t:=rfl
theorem Pair.bytes_g (P : Pair) (t : TypeId) : P.g.bytesOf t = P.c.bytesOf t:=rfl
theorem Pair.depth_g (P : Pair) : P.g.depth = P.c.depth:=rfl
theorem Pair.byteOfCell_g (P : Pair) : ∀ (d : Nat) (t : TypeId) (o : Nat),byteOfCell P.g d t o = byteOfCell P.c d t o:=by
 intro d
 induction d with
 | zero => intro t o; rfl
 | succ d ih =>
  intro t o
  unfold byteOfCell
  rw [P.underlying_g]
  simp only [ih,P.cells_g,P.bytes_g]
  rfl
theorem Pair.globals_g (P : Pair) : P.g.globals = P.c.globals:=rfl
inductive EntR (S : FuncId -> Prop) (K R : Pr) : MapEntry -> MapEntry -> Prop
 | mk {k k' v v' : Value} {born : Nat} : VR S K R k k' -> VR S K R v v' -> EntR S K R ⟨k,v,born⟩ ⟨k',v',born⟩
def EnsR (S : FuncId -> Prop) (K R : Pr) (es es' : Array MapEntry) : Prop:=es.size = es'.size /\ ∀ (i : Nat) (e e' : MapEntry),es[i]? = some e -> es'[i]? = some e' -> EntR S K R e e'
def inFz (fz : Nat × Nat) (o : Nat) : Prop:=fz.1 <= o /\ o < fz.2
inductive ObR (S : FuncId -> Prop) (K R : Pr) : Obj -> Obj -> Prop
 | cells {c c' : Array Value} {T : TypeId} {fz fz' : Nat × Nat} : ArR S K R c c' -> (∀ o,inFz fz' o -> inFz fz o) -> ObR S K R (.cells c T fz) (.cells c' T fz')
 | map {es es' : Array MapEntry} {cl : Nat} : EnsR S K R es es' -> ObR S K R (.map es cl) (.map es' cl)
 | chan {cap s r : Nat} {buf buf' : Array Value} {closed tm : Bool} : ArR S K R buf buf' -> ObR S K R (.chan cap buf closed s r tm) (.chan cap buf' closed s r tm)
 | stringIter (s : ByteArray) (pos : Nat) : ObR S K R (.stringIter s pos) (.stringIter s pos)
 | number {a a' : Addr} {lost : Bool} : AdR R a a' -> ObR S K R (.number a lost) (.number a' lost)
 | mapIter {m m' : Option Nat} {since stepped : Nat} {seen : Array Nat} : OnR R m m' -> ObR S K R (.mapIter m since seen stepped) (.mapIter m' since seen stepped)
section
variable {S : FuncId -> Prop} {K R R' : Pr}
theorem EntR.mono (h : R.le R') {e e' : MapEntry} (x : EntR S K R e e') : EntR S K R' e e':=by cases x with | mk a b => exact .mk (a.mono h) (b.mono h)
theorem EnsR.mono (h : R.le R') {e e' : Array MapEntry} (x : EnsR S K R e e') : EnsR S K R' e e':=⟨x.1,λ i a b h1 h2 => (x.2 i a b h1 h2).mono h⟩
theorem ObR.mono (h : R.le R') {o o' : Obj} (x : ObR S K R o o') : ObR S K R' o o':=by
 cases x with
 | cells a b => exact .cells (a.mono h) b
 | map a => exact .map (a.mono h)
 | chan a => exact .chan (a.mono h)
 | stringIter s p => exact .stringIter s p
 | number a => exact .number (a.mono h)
 | mapIter a => exact .mapIter (a.mono h)
end
def waste : Obj:=.cells #[] 0
structure RelOk (P : Pair) (K R : Pr) : Prop where
 inj : ∀ a b c,R.or K a b -> R.or K a c -> b = c
 inj' : ∀ a b c,R.or K a c -> R.or K b c -> a = b
 low : ∀ a b,R a b -> (a < P.globals.size ↔ b < P.globals.size)
 tb : ∀ g,tabOk P.c g = true -> R g g
structure Fresh (P : Pair) (K R : Pr) (n n' : Nat) : Prop where
 l : ∀ b,¬ R.or K n b
 r : ∀ a,¬ R.or K a n'
 low : P.globals.size <= n /\ P.globals.size <= n'
structure Ext (P : Pair) (K R R' : Pr) : Prop where
 le : R.le R'
 ok : RelOk P K R -> RelOk P K R'
theorem Ext.refl {P : Pair} {K : Pr} (R : Pr) : Ext P K R R:=⟨.refl R,id⟩
theorem Ext.trans {P : Pair} {K R R' R'' : Pr} (h : Ext P K R R') (h' : Ext P K R' R'') : Ext P K R R'':=⟨h.le.trans h'.le,λ x => h'.ok (h.ok x)⟩
theorem Ext.add {P : Pair} {K R : Pr} {n n' : Nat} (f : Fresh P K R n n') : Ext P K R (R.add n n'):=by
 refine ⟨Pr.le_add R n n',λ h => ⟨?_,?_,?_,λ g hg => .inl (h.tb g hg)⟩⟩
 ·rintro a b c ((x | ⟨rfl,rfl⟩) | x) ((y | ⟨e,rfl⟩) | y)
  ·exact h.inj a b c (.inl x) (.inl y)
  ·exact absurd (.inl (e ▸ x)) (f.l _)
  ·exact h.inj a b c (.inl x) (.inr y)
  ·exact absurd (.inl y) (f.l _)
  ·rfl
  ·exact absurd (.inr y) (f.l _)
  ·exact h.inj a b c (.inr x) (.inl y)
  ·exact absurd (.inr (e ▸ x)) (f.l _)
  ·exact h.inj a b c (.inr x) (.inr y)
 ·rintro a b c ((x | ⟨rfl,rfl⟩) | x) ((y | ⟨rfl,e⟩) | y)
  ·exact h.inj' a b c (.inl x) (.inl y)
  ·exact absurd (.inl (e ▸ x)) (f.r _)
  ·exact h.inj' a b c (.inl x) (.inr y)
  ·exact absurd (.inl y) (f.r _)
  ·rfl
  ·exact absurd (.inr y) (f.r _)
  ·exact h.inj' a b c (.inr x) (.inl y)
  ·exact absurd (.inr (e ▸ x)) (f.r _)
  ·exact h.inj' a b c (.inr x) (.inr y)
 ·rintro a b (x | ⟨rfl,rfl⟩)
  ·exact h.low a b x
  ·have:=f.low; omega
def TameH : Halt -> Prop
 | .panic _ | .stuck _ => True
 | .unsupported (.initOrder _) => False
 | .unsupported _ => True
 | _ => False
def NoPend (w : World) : Prop:=∀ (b : Nat) (c : Array Value) (e : TypeId),w.heap[b]? ≠ some (.pending c e)
def Never (P : Pair) {α : Type} (s : Sem α) : Prop:=∀ w,NoPend w -> ∃ h w',s.run P.g w = .halt h w' /\ TameH h
theorem Never.no {P : Pair} {α : Type} {s : Sem α} (h : Never P s) {w : World} (hw : NoPend w) (x : α) (w' : World) : s.run P.g w ≠ .ok x w':=by
 obtain ⟨_,_,e,_⟩:=h w hw
 rw [e]; simp
theorem Never.bind {P : Pair} {α β : Type} {s : Sem α} (h : Never P s) (f : α -> Sem β) : Never P (s.bind f):=by
 intro w hw
 obtain ⟨y,w1,e,ht⟩:=h w hw
 exact ⟨y,w1,by rw [Sem.run_bind',e]; rfl,ht⟩
def SimC (P : Pair) (S : FuncId -> Prop) (K : Pr) {α β : Type} (A : Pr -> α -> β -> Prop) : Sem α -> Pr -> Sem β -> Prop
 | .pure a,R,s' => ∃ b,s' = .pure b /\ A R a b
 | .load m a k,R,s' => m = .plain /\ ∃ a' k',s' = .load .plain a' k' /\ AdR R a a' /\ ∀ v v',VR S K R v v' -> Never P (k v) \/ SimC P S K A (k v) R (k' v')
 | .store m a v k,R,s' => m = .plain /\ ∃ a' v' k',s' = .store .plain a' v' k' /\ AdR R a a' /\ VR S K R v v' /\ (Never P k \/ SimC P S K A k R k')
 | .new o k,R,s' => ∃ o' k',s' = .new o' k' /\ ObR S K R o o' /\ ∀ n n',Fresh P K R n n' -> Never P (k n) \/ SimC P S K A (k n) (R.add n n') (k' n')
 | .shape r k,R,s' => ∃ r' k',s' = .shape r' k' /\ R r r' /\ ∀ x,Never P (k x) \/ SimC P S K A (k x) R (k' x)
 | .freeze _ _ _,_,_ => False
 | .frozen a k,R,s' => ∃ a' k',s' = .frozen a' k' /\ ∀ x x',Never P (k x) \/ SimC P S K A (k x) R (k' x')
 | .getObj r k,R,s' => ∃ r' k',s' = .getObj r' k' /\ R.or K r r' /\ ∀ o o',ObR S K R o o' -> Never P (k o) \/ SimC P S K A (k o) R (k' o')
 | .setObj r o k,R,s' => ∃ r' o' k',s' = .setObj r' o' k' /\ R.or K r r' /\ ObR S K R o o' /\ (Never P k \/ SimC P S K A k R k')
 | .choose q k,R,s' => ∃ k',s' = .choose q k' /\ ∀ n,Never P (k n) \/ SimC P S K A (k n) R (k' n)
 | .sys _ _,_,_ => False
 | .program k,R,s' => ∃ k',s' = .program k' /\ (Never P (k P.g) \/ SimC P S K A (k P.g) R (k' P.c))
 | .mark m k,R,s' => m = .noRoom /\ ∃ k',s' = .mark .noRoom k' /\ (Never P k \/ SimC P S K A k R k')
 | .halt _,_,_ => False
def Sim (P : Pair) (S : FuncId -> Prop) (K : Pr) {α β : Type} (A : Pr -> α -> β -> Prop) (s : Sem α) (R : Pr) (s' : Sem β) : Prop:=Never P s \/ SimC P S K A s R s'
section
variable {P : Pair} {S : FuncId -> Prop} {K : Pr} {α β γ δ : Type} {A : Pr -> α -> β -> Prop} {B : Pr -> γ -> δ -> Prop}
theorem Sim.pure {R : Pr} {a : α} {b : β} (h : A R a b) : Sim P S K A (.pure a) R (.pure b):=.inr ⟨b,rfl,h⟩
theorem Never.halt {h : Halt} (ht : TameH h) : Never P (.halt h : Sem α):=λ w _ => ⟨h,w,rfl,ht⟩
theorem Sim.bind {s : Sem α} : ∀ {R : Pr} {s' : Sem β} {f : α -> Sem γ} {f' : β -> Sem δ},Sim P S K A s R s' -> (∀ R',Ext P K R R' -> ∀ a b,A R' a b -> Sim P S K B (f a) R' (f' b)) -> Sim P S K B (s.bind f) R (s'.bind f'):=by
 induction s with
 | pure a =>
  rintro R s' f f' (hn | ⟨b,rfl,h⟩) hf
  ·exact .inl (hn.bind _)
  ·exact hf R (.refl R) a b h
 | load m a k ih =>
  rintro R s' f f' (hn | ⟨hm,a',k',rfl,ha,hk⟩) hf
  ·exact .inl (hn.bind _)
  ·exact .inr ⟨hm,a',_,rfl,ha,λ v v' hv => ih v (hk v v' hv) hf⟩
 | store m a v k ih =>
  rintro R s' f f' (hn | ⟨hm,a',v',k',rfl,ha,hv,hk⟩) hf
  ·exact .inl (hn.bind _)
  ·exact .inr ⟨hm,a',v',_,rfl,ha,hv,ih hk hf⟩
 | new o k ih =>
  rintro R s' f f' (hn | ⟨o',k',rfl,ho,hk⟩) hf
  ·exact .inl (hn.bind _)
  ·exact .inr ⟨o',_,rfl,ho,λ n n' hfr => ih n (hk n n' hfr) λ R' hR a b h => hf R' ((Ext.add hfr).trans hR) a b h⟩
 | shape r k ih =>
  rintro R s' f f' (hn | ⟨r',k',rfl,hr,hk⟩) hf
  ·exact .inl (hn.bind _)
  ·exact .inr ⟨r',_,rfl,hr,λ x => ih x (hk x) hf⟩
 | freeze a n k ih =>
  rintro R s' f f' (hn | h) hf
  ·exact .inl (hn.bind _)
  ·exact h.elim
 | frozen a k ih =>
  rintro R s' f f' (hn | ⟨r',k',rfl,hk⟩) hf
  ·exact .inl (hn.bind _)
  ·exact .inr ⟨r',_,rfl,λ x x' => ih x (hk x x') hf⟩
 | getObj r k ih =>
  rintro R s' f f' (hn | ⟨r',k',rfl,hr,hk⟩) hf
  ·exact .inl (hn.bind _)
  ·exact .inr ⟨r',_,rfl,hr,λ o o' ho => ih o (hk o o' ho) hf⟩
 | setObj r o k ih =>
  rintro R s' f f' (hn | ⟨r',o',k',rfl,hr,ho,hk⟩) hf
  ·exact .inl (hn.bind _)
  ·exact .inr ⟨r',o',_,rfl,hr,ho,ih hk hf⟩
 | choose q k ih =>
  rintro R s' f f' (hn | ⟨k',rfl,hk⟩) hf
  ·exact .inl (hn.bind _)
  ·exact .inr ⟨_,rfl,λ n => ih n (hk n) hf⟩
 | sys c k ih =>
  rintro R s' f f' (hn | h) hf
  ·exact .inl (hn.bind _)
  ·exact h.elim
 | program k ih =>
  rintro R s' f f' (hn | ⟨k',rfl,hk⟩) hf
  ·exact .inl (hn.bind _)
  ·exact .inr ⟨_,rfl,ih P.g hk hf⟩
 | mark m k ih =>
  rintro R s' f f' (hn | ⟨rfl,k',rfl,hk⟩) hf
  ·exact .inl (hn.bind _)
  ·exact .inr ⟨rfl,_,rfl,ih hk hf⟩
 | halt h =>
  rintro R s' f f' (hn | hx) _
  ·exact .inl (hn.bind _)
  ·exact hx.elim
theorem Sim.mono {A' : Pr -> α -> β -> Prop} {s : Sem α} : ∀ {R : Pr} {s' : Sem β},Sim P S K A s R s' -> (∀ R',Ext P K R R' -> ∀ a b,A R' a b -> A' R' a b) -> Sim P S K A' s R s':=by
 induction s with
 | pure a =>
  rintro R s' (hn | ⟨b,rfl,h⟩) hf
  ·exact .inl hn
  ·exact .inr ⟨b,rfl,hf R (.refl R) a b h⟩
 | load m a k ih =>
  rintro R s' (hn | ⟨hm,a',k',rfl,ha,hk⟩) hf
  ·exact .inl hn
  ·exact .inr ⟨hm,a',_,rfl,ha,λ v v' hv => ih v (hk v v' hv) hf⟩
 | store m a v k ih =>
  rintro R s' (hn | ⟨hm,a',v',k',rfl,ha,hv,hk⟩) hf
  ·exact .inl hn
  ·exact .inr ⟨hm,a',v',_,rfl,ha,hv,ih hk hf⟩
 | new o k ih =>
  rintro R s' (hn | ⟨o',k',rfl,ho,hk⟩) hf
  ·exact .inl hn
  ·exact .inr ⟨o',_,rfl,ho,λ n n' hfr => ih n (hk n n' hfr) λ R' hR a b h => hf R' ((Ext.add hfr).trans hR) a b h⟩
 | shape r k ih =>
  rintro R s' (hn | ⟨r',k',rfl,hr,hk⟩) hf
  ·exact .inl hn
  ·exact .inr ⟨r',_,rfl,hr,λ x => ih x (hk x) hf⟩
 | freeze a n k ih =>
  rintro R s' (hn | h) hf
  ·exact .inl hn
  ·exact h.elim
 | frozen a k ih =>
  rintro R s' (hn | ⟨r',k',rfl,hk⟩) hf
  ·exact .inl hn
  ·exact .inr ⟨r',_,rfl,λ x x' => ih x (hk x x') hf⟩
 | getObj r k ih =>
  rintro R s' (hn | ⟨r',k',rfl,hr,hk⟩) hf
  ·exact .inl hn
  ·exact .inr ⟨r',_,rfl,hr,λ o o' ho => ih o (hk o o' ho) hf⟩
 | setObj r o k ih =>
  rintro R s' (hn | ⟨r',o',k',rfl,hr,ho,hk⟩) hf
  ·exact .inl hn
  ·exact .inr ⟨r',o',_,rfl,hr,ho,ih hk hf⟩
 | choose q k ih =>
  rintro R s' (hn | ⟨k',rfl,hk⟩) hf
  ·exact .inl hn
  ·exact .inr ⟨_,rfl,λ n => ih n (hk n) hf⟩
 | sys c k ih =>
  rintro R s' (hn | h) hf
  ·exact .inl hn
  ·exact h.elim
 | program k ih =>
  rintro R s' (hn | ⟨k',rfl,hk⟩) hf
  ·exact .inl hn
  ·exact .inr ⟨_,rfl,ih P.g hk hf⟩
 | mark m k ih =>
  rintro R s' (hn | ⟨rfl,k',rfl,hk⟩) hf
  ·exact .inl hn
  ·exact .inr ⟨rfl,_,rfl,ih hk hf⟩
 | halt h =>
  rintro R s' (hn | hx) _
  ·exact .inl hn
  ·exact hx.elim
end
structure WRel (S : FuncId -> Prop) (K R : Pr) (G : Gp) (St : Nat -> Prop) (w W : World) : Prop where
 inj : ∀ a b c,R.or K a b -> R.or K a c -> b = c
 inj' : ∀ a b c,R.or K a c -> R.or K b c -> a = b
 lt : ∀ a b,R.or K a b -> a < w.heap.size /\ b < W.heap.size
 low : ∀ a b,R a b -> (a < G.n ↔ b < G.n) /\ (a < G.n -> a = b)
 gle : G.n <= w.heap.size /\ G.n <= W.heap.size
 cont : ∀ a b,R a b -> ∃ o o',w.heap[a]? = some o /\ W.heap[b]? = some o' /\ ObR S K R o o'
 rest : ∀ a b,K a b -> (∀ c,¬ R a c) -> w.heap[a]? = some waste
 st : ∀ a,St a -> (∃ b,R a b) /\ ∃ c T hi,w.heap[a]? = some (.cells c T (0,hi)) /\ c.size <= hi
 np : NoPend w
 tb : ∀ g,G.tab g = true -> R g g
def Tp (w W : World) : Prop:=∀ n q,w.tape (w.drawn + n) q = W.tape (W.drawn + n) q
def evBlock (e : Event) : Option Nat:=match e.loc with | .cell a => some a.block | .obj r => some r | _ => none
def EvOk (R : Pr) (St : Nat -> Prop) (e : Event) : Prop:=
 e = ⟨.mark .noRoom,false,true⟩ \/ ∃ b a,evBlock e = some b /\ R a b /\ (e.write = true -> ¬ St a)
theorem EvOk.mono {R R' : Pr} {St : Nat -> Prop} (h : R.le R') {e : Event} (x : EvOk R St e) : EvOk R' St e:=by
 rcases x with x | ⟨b,a,h1,h2,h3⟩
 ·exact .inl x
 ·exact .inr ⟨b,a,h1,h _ _ h2,h3⟩
structure WStep (S : FuncId -> Prop) (K R : Pr) (G : Gp) (St : Nat -> Prop) (w W : World) (R' : Pr) (w' W' : World) : Prop where
 le : R.le R'
 old : ∀ a b,R a b -> a < w.heap.size /\ b < W.heap.size
 rel : WRel S K R' G St w' W'
 tape : w'.tape = w.tape /\ W'.tape = W.tape
 drawn : ∃ d,w'.drawn = w.drawn + d /\ W'.drawn = W.drawn + d
 os : w'.os = w.os /\ W'.os = W.os
 out : w'.output = w.output /\ W'.output = W.output
 size : w.heap.size <= w'.heap.size /\ W.heap.size <= W'.heap.size
 new : ∀ a b,R' a b -> R a b \/ (w.heap.size <= a /\ W.heap.size <= b)
 full : ∀ b,W.heap.size <= b -> b < W'.heap.size -> ∃ a,R' a b /\ w.heap.size <= a
 keep : ∀ b,b < W.heap.size -> (∀ a,R a b -> St a) -> W'.heap[b]? = W.heap[b]?
 still : ∀ a,St a -> w'.heap[a]? = w.heap[a]?
 keepG : ∀ a,a < w.heap.size -> (∀ b,¬ R a b) -> w'.heap[a]? = w.heap[a]?
section
variable {P : Pair} {S : FuncId -> Prop} {K R R' R'' : Pr} {G : Gp} {St : Nat -> Prop} {w W w' W' w'' W'' : World}
theorem WRel.ltR (h : WRel S K R G St w W) : ∀ a b,R a b -> a < w.heap.size /\ b < W.heap.size:=λ a b x => h.lt a b (.inl x)
theorem WStep.refl (h : WRel S K R G St w W) : WStep S K R G St w W R w W:=
 ⟨.refl R,h.ltR,h,⟨rfl,rfl⟩,⟨0,rfl,rfl⟩,⟨rfl,rfl⟩,⟨rfl,rfl⟩,⟨Nat.le_refl _,Nat.le_refl _⟩,λ _ _ h => .inl h,λ b h1 h2 => absurd h2 (by omega),λ _ _ _ => rfl,λ _ _ => rfl,λ _ _ _ => rfl⟩
theorem WStep.trans (h : WStep S K R G St w W R' w' W') (h' : WStep S K R' G St w' W' R'' w'' W'') : WStep S K R G St w W R'' w'' W'':=by
 obtain ⟨d,d1,d2⟩:=h.drawn
 obtain ⟨e,e1,e2⟩:=h'.drawn
 have s1:=h.size
 have s2:=h'.size
 refine ⟨h.le.trans h'.le,h.old,h'.rel,⟨h'.tape.1.trans h.tape.1,h'.tape.2.trans h.tape.2⟩,⟨d + e,by omega,by omega⟩,⟨h'.os.1.trans h.os.1,h'.os.2.trans h.os.2⟩,⟨h'.out.1.trans h.out.1,h'.out.2.trans h.out.2⟩,⟨by omega,by omega⟩,?_,?_,?_,?_,?_⟩
 ·intro a b x
  rcases h'.new a b x with x | ⟨x,y⟩
  ·exact h.new a b x
  ·exact .inr ⟨by omega,by omega⟩
 ·intro b x y
  rcases Nat.lt_or_ge b W'.heap.size with z | z
  ·obtain ⟨a,r,g⟩:=h.full b x z
   exact ⟨a,h'.le a b r,g⟩
  ·obtain ⟨a,r,g⟩:=h'.full b z y
   exact ⟨a,r,by omega⟩
 ·intro b x hk
  refine (h'.keep b (by omega) λ a r => ?_).trans (h.keep b x hk)
  rcases h.new a b r with r' | ⟨_,r'⟩
  ·exact hk a r'
  ·omega
 ·intro a x; exact (h'.still a x).trans (h.still a x)
 ·intro a x y
  refine (h'.keepG a (by omega) λ b r => ?_).trans (h.keepG a x y)
  rcases h.new a b r with r' | ⟨r',_⟩
  ·exact y b r'
  ·omega
end
end Go.Tt
namespace Go.Tt
section
variable {P : Pair} {S : FuncId -> Prop} {K R R' : Pr} {G : Gp} {St : Nat -> Prop} {w W w' W' : World}
theorem plain_ne : (Mode.plain == Mode.atomic) = false:=rfl
theorem heap_lt {w : World} {a : Nat} {o : Obj} (h : w.heap[a]? = some o) : a < w.heap.size:=(Array.getElem?_eq_some_iff.1 h).1
theorem ObR.live {S : FuncId -> Prop} {K R : Pr} {o o' : Obj} (h : ObR S K R o o') : ∀ c e,o ≠ .pending c e:=by cases h <;> simp
theorem NoPend.set {w : World} (h : NoPend w) {a : Nat} {o : Obj} (ho : ∀ c e,o ≠ .pending c e) : NoPend { w with heap:=w.heap.setIfInBounds a o }:=by
 intro b c e
 by_cases hb : a = b
 ·subst hb
  rcases Nat.lt_or_ge a w.heap.size with hl | hl
  ·simp only [Array.getElem?_setIfInBounds_self_of_lt hl,ne_eq,Option.some.injEq]; exact ho c e
  ·rw [Array.getElem?_eq_none (by simpa using hl)]; simp
 ·simp only [Array.getElem?_setIfInBounds_ne hb]; exact h b c e
theorem NoPend.push {w : World} (h : NoPend w) {o : Obj} (ho : ∀ c e,o ≠ .pending c e) : NoPend { w with heap:=w.heap.push o }:=by
 intro b c e
 simp only [Array.getElem?_push]
 split
 ·simp only [ne_eq,Option.some.injEq]; exact ho c e
 ·exact h b c e
theorem WStep.upd (h : WRel S K R G St w W) {a b : Nat} {o o' : Obj} (r : R a b) (ns : ¬ St a) (ho : ObR S K R o o') :
  WStep S K R G St w W R { w with heap:=w.heap.setIfInBounds a o } { W with heap:=W.heap.setIfInBounds b o' }:=by
 obtain ⟨l1,l2⟩:=h.ltR a b r
 refine ⟨.refl R,h.ltR,⟨h.inj,h.inj',λ x y z => by simpa using h.lt x y z,h.low,by simpa using h.gle,λ x y z => ?_,λ x y' hx nf => ?_,λ x sx => ?_,NoPend.set h.np ho.live,h.tb⟩,⟨rfl,rfl⟩,⟨0,rfl,rfl⟩,⟨rfl,rfl⟩,⟨rfl,rfl⟩,⟨by simp,by simp⟩,λ _ _ h => .inl h,λ x h1 h2 => absurd h2 (by simp; omega),λ x hx hk => ?_,λ x sx => ?_,λ x hx nf => ?_⟩
 ·by_cases e : x = a
  ·subst e
   have:=h.inj x y b (.inl z) (.inl r)
   subst this
   exact ⟨o,o',by simp [l1],by simp [l2],ho⟩
  ·have e' : y ≠ b:=λ e' => e (h.inj' x a b (.inl (e' ▸ z)) (.inl r))
   obtain ⟨p,q,h1,h2,h3⟩:=h.cont x y z
   exact ⟨p,q,by simp [Array.getElem?_setIfInBounds_ne (Ne.symm e),h1],by simp [Array.getElem?_setIfInBounds_ne (Ne.symm e'),h2],h3⟩
 ·have e : x ≠ a:=λ e => nf b (e ▸ r)
  have:=h.rest x _ hx nf
  simp [Array.getElem?_setIfInBounds_ne (Ne.symm e),this]
 ·have e : x ≠ a:=λ e => ns (e ▸ sx)
  obtain ⟨fx,c,T,hi,h1,h2⟩:=h.st x sx
  exact ⟨fx,c,T,hi,by simp [Array.getElem?_setIfInBounds_ne (Ne.symm e),h1],h2⟩
 ·have e : b ≠ x:=λ e => ns (hk a (e ▸ r))
  simp [Array.getElem?_setIfInBounds_ne e]
 ·have e : x ≠ a:=λ e => ns (e ▸ sx)
  simp [Array.getElem?_setIfInBounds_ne (Ne.symm e)]
 ·have e : x ≠ a:=λ e => nf b (e ▸ r)
  simp [Array.getElem?_setIfInBounds_ne (Ne.symm e)]
theorem setCell_eq {w : World} {b o : Nat} {c : Array Value} {T : TypeId} {fz : Nat × Nat} (h : w.heap[b]? = some (.cells c T fz)) (v : Value) :
  w.setCell ⟨b,o,none⟩ v = { w with heap:=w.heap.setIfInBounds b (.cells (c.setIfInBounds o v) T fz) }:=by
 have hl:=heap_lt h
 have hb : w.heap[b] = .cells c T fz:=by simpa [Array.getElem?_eq_getElem hl] using h
 unfold World.setCell
 congr 1
 apply Array.ext_getElem?
 intro i
 rw [Array.getElem?_modify]
 by_cases e : b = i
 ·subst e; simp [hl,hb]
 ·rw [if_neg e,Array.getElem?_setIfInBounds_ne e]
theorem WStep.push (h : WRel S K R G St w W) {o o' : Obj} (ho : ObR S K R o o') :
  WStep S K R G St w W (R.add w.heap.size W.heap.size) { w with heap:=w.heap.push o } { W with heap:=W.heap.push o' }:=by
 have l1 : ∀ a b,R.or K a b -> a ≠ w.heap.size:=λ a b x e => by have:=(h.lt a b x).1; omega
 have l2 : ∀ a b,R.or K a b -> b ≠ W.heap.size:=λ a b x e => by have:=(h.lt a b x).2; omega
 have g1:=h.gle
 refine ⟨Pr.le_add _ _ _,h.ltR,⟨?_,?_,?_,?_,by simp; omega,?_,?_,?_,NoPend.push h.np ho.live,λ g hg => .inl (h.tb g hg)⟩,⟨rfl,rfl⟩,⟨0,rfl,rfl⟩,⟨rfl,rfl⟩,⟨rfl,rfl⟩,⟨by simp,by simp⟩,?_,?_,?_,?_,?_⟩
 ·rintro a b c ((x | ⟨rfl,rfl⟩) | x) ((y | ⟨e,rfl⟩) | y)
  ·exact h.inj a b c (.inl x) (.inl y)
  ·exact absurd e (l1 _ _ (.inl x))
  ·exact h.inj a b c (.inl x) (.inr y)
  ·exact absurd rfl (l1 _ _ (.inl y))
  ·rfl
  ·exact absurd rfl (l1 _ _ (.inr y))
  ·exact h.inj a b c (.inr x) (.inl y)
  ·exact absurd e (l1 _ _ (.inr x))
  ·exact h.inj a b c (.inr x) (.inr y)
 ·rintro a b c ((x | ⟨rfl,rfl⟩) | x) ((y | ⟨rfl,e⟩) | y)
  ·exact h.inj' a b c (.inl x) (.inl y)
  ·exact absurd e (l2 _ _ (.inl x))
  ·exact h.inj' a b c (.inl x) (.inr y)
  ·exact absurd rfl (l2 _ _ (.inl y))
  ·rfl
  ·exact absurd rfl (l2 _ _ (.inr y))
  ·exact h.inj' a b c (.inr x) (.inl y)
  ·exact absurd e (l2 _ _ (.inr x))
  ·exact h.inj' a b c (.inr x) (.inr y)
 ·rintro a b ((x | ⟨rfl,rfl⟩) | x)
  ·have:=h.lt a b (.inl x); simp; omega
  ·simp
  ·have:=h.lt a b (.inr x); simp; omega
 ·rintro a b (x | ⟨rfl,rfl⟩)
  ·exact h.low a b x
  ·exact ⟨by omega,λ z => by omega⟩
 ·rintro a b (x | ⟨rfl,rfl⟩)
  ·obtain ⟨p,q,h1,h2,h3⟩:=h.cont a b x
   exact ⟨p,q,by rw [Array.getElem?_push_lt (heap_lt h1)]; rw [<- h1,Array.getElem?_eq_getElem],by rw [Array.getElem?_push_lt (heap_lt h2)]; rw [<- h2,Array.getElem?_eq_getElem],h3.mono (Pr.le_add _ _ _)⟩
  ·exact ⟨o,o',by simp,by simp,ho.mono (Pr.le_add _ _ _)⟩
 ·intro a b' ha nf
  have e : a ≠ w.heap.size:=λ e => nf _ (.inr ⟨e,rfl⟩)
  have hl : a < w.heap.size:=(h.lt a b' (.inr ha)).1
  have:=h.rest a b' ha (λ b f => nf b (.inl f))
  rw [Array.getElem?_push_lt hl,<- this,Array.getElem?_eq_getElem]
 ·intro a sa
  obtain ⟨⟨b,fa⟩,c,T,hi,h1,h2⟩:=h.st a sa
  exact ⟨⟨b,.inl fa⟩,c,T,hi,by rw [Array.getElem?_push_lt (heap_lt h1),<- h1,Array.getElem?_eq_getElem],h2⟩
 ·rintro a b (x | ⟨rfl,rfl⟩)
  ·exact .inl x
  ·exact .inr ⟨Nat.le_refl _,Nat.le_refl _⟩
 ·intro b x y
  simp only [Array.size_push] at y
  obtain rfl : b = W.heap.size:=by omega
  exact ⟨_,.inr ⟨rfl,rfl⟩,Nat.le_refl _⟩
 ·intro b hb _
  rw [Array.getElem?_push_lt hb,Array.getElem?_eq_getElem]
 ·intro a sa
  obtain ⟨fa,c,T,hi,h1,h2⟩:=h.st a sa
  rw [Array.getElem?_push_lt (heap_lt h1),Array.getElem?_eq_getElem]
 ·intro a ha _
  rw [Array.getElem?_push_lt ha,Array.getElem?_eq_getElem]
theorem WStep.draw (h : WRel S K R G St w W) : WStep S K R G St w W R { w with drawn:=w.drawn + 1 } { W with drawn:=W.drawn + 1 }:=
 ⟨.refl R,h.ltR,⟨h.inj,h.inj',h.lt,h.low,h.gle,h.cont,h.rest,h.st,h.np,h.tb⟩,⟨rfl,rfl⟩,⟨1,rfl,rfl⟩,⟨rfl,rfl⟩,⟨rfl,rfl⟩,⟨Nat.le_refl _,Nat.le_refl _⟩,λ _ _ h => .inl h,λ b h1 h2 => absurd h2 (by simp; omega),λ _ _ _ => rfl,λ _ _ => rfl,λ _ _ _ => rfl⟩
theorem Tp.step (h : Tp w W) (s : WStep S K R G St w W R' w' W') : Tp w' W':=by
 obtain ⟨d,d1,d2⟩:=s.drawn
 intro n q
 rw [s.tape.1,s.tape.2,d1,d2,Nat.add_assoc,Nat.add_assoc]
 exact h (d + n) q
end
def Ran (P : Pair) (S : FuncId -> Prop) (K : Pr) {α β : Type} (A : Pr -> α -> β -> Prop) (R : Pr) (G : Gp) (St : Nat -> Prop) (w W : World) (s' : Sem β) (x : α) (w' : World) : Prop:=
 ∃ R' x' W' ev,s'.run P.c W = .ok x' W' /\ A R' x x' /\ WStep S K R G St w W R' w' W' /\ (∀ es,s'.events P.c W es = es ++ ev) /\ ∀ e ∈ ev,EvOk R' St e
theorem Ran.after {P : Pair} {S : FuncId -> Prop} {K : Pr} {α β : Type} {A : Pr -> α -> β -> Prop} {R R₁ : Pr} {G : Gp} {St : Nat -> Prop} {w W w₁ W₁ : World} {s' s₁' : Sem β} {x : α} {w' : World} {e₁ : Array Event}
  (h₁ : WStep S K R G St w W R₁ w₁ W₁) (hr : s'.run P.c W = s₁'.run P.c W₁) (he : ∀ es,s'.events P.c W es = s₁'.events P.c W₁ (es ++ e₁)) (hok : ∀ e ∈ e₁,EvOk R₁ St e) (h : Ran P S K A R₁ G St w₁ W₁ s₁' x w') : Ran P S K A R G St w W s' x w':=by
 obtain ⟨R',x',W',ev,a,b,c,d,e⟩:=h
 refine ⟨R',x',W',e₁ ++ ev,hr.trans a,b,h₁.trans c,λ es => by rw [he,d,Array.append_assoc],λ y hy => ?_⟩
 rcases Array.mem_append.1 hy with hy | hy
 ·exact (hok y hy).mono c.le
 ·exact e y hy
theorem ObR.shape {S : FuncId -> Prop} {K R : Pr} {G : Gp} {St : Nat -> Prop} {w W : World} (h : WRel S K R G St w W) {r r' : Nat} (x : R r r') : W.shape? r' = w.shape? r:=by
 obtain ⟨o,o',h1,h2,h3⟩:=h.cont r r' x
 unfold World.shape?
 rw [h1,h2]
 cases h3 with
 | cells hc _ => simp [hc.1]
 | _ => rfl
theorem WRel.orR {S : FuncId -> Prop} {K R : Pr} {G : Gp} {St : Nat -> Prop} {w W : World} (h : WRel S K R G St w W) {a b : Nat} (x : R.or K a b) : R a b \/ w.heap[a]? = some waste:=by
 by_cases e : ∃ c,R a c
 ·obtain ⟨c,e⟩:=e
  exact .inl (h.inj a b c x (.inl e) ▸ e)
 ·exact .inr (h.rest a b (x.resolve_left λ y => e ⟨b,y⟩) (λ c y => e ⟨c,y⟩))
theorem Sim.run {P : Pair} {S : FuncId -> Prop} {α β : Type} {K : Pr} {A : Pr -> α -> β -> Prop} {G : Gp} {St : Nat -> Prop} (hG : G = P.gp) {x : α} {w' : World} (s : Sem α) :
  ∀ {R : Pr} {w W : World} {s' : Sem β},Sim P S K A s R s' -> WRel S K R G St w W -> Tp w W -> s.run P.g w = .ok x w' -> Ran P S K A R G St w W s' x w':=by
 induction s with
 | pure a =>
  rintro R w W s' (hn | ⟨b,rfl,h⟩) hw ht hr
  ·exact absurd hr (hn.no hw.np _ _)
  simp only [Sem.run,Result.ok.injEq] at hr
  obtain ⟨rfl,rfl⟩:=hr
  exact ⟨R,b,W,#[],rfl,h,.refl hw,λ es => by unfold Sem.events; rw [Sem.runT]; simp,λ e he => by simp at he⟩
 | load m a k ih =>
  rintro R w W s' (hn | ⟨rfl,a',k',rfl,ha,hk⟩) hw ht hr
  ·exact absurd hr (hn.no hw.np _ _)
  obtain ⟨hab⟩:=ha
  rename_i b b' o sp
  ·obtain ⟨ob,ob',h1,h2,h3⟩:=hw.cont b b' hab
   cases h3 with
   | cells hc hz =>
    rename_i c c' T fz fz'
    cases sp with
    | some sp => simp [Sem.run,World.cell?,h1,World.farLoad,World.noCell] at hr
    | none =>
     cases hv : c[o]? with
     | none => simp [Sem.run,World.cell?,h1,World.farLoad,World.noCell,hv] at hr
     | some v =>
      obtain ⟨v',hv',hvv⟩:=hc.get hv
      have e1 : w.cell? ⟨b,o,none⟩ = some v:=by simp [World.cell?,h1,hv]
      have e2 : W.cell? ⟨b',o,none⟩ = some v':=by simp [World.cell?,h2,hv']
      rw [Sem.run,e1] at hr
      refine Ran.after (e₁:=#[⟨.cell ⟨b',o,none⟩,false,false⟩]) (.refl hw) (by rw [Sem.run,e2]) (λ es => by unfold Sem.events; rw [Sem.runT,e2]; simp [plain_ne]) ?_ (ih v (hk v v' hvv) hw ht hr)
      intro e he
      simp at he
      subst he
      exact .inr ⟨b',b,rfl,hab,by simp⟩
   | map x => simp [Sem.run,World.cell?,h1,World.farLoad,World.noCell] at hr
   | chan x => simp [Sem.run,World.cell?,h1,World.farLoad,World.noCell] at hr
   | stringIter x y => simp [Sem.run,World.cell?,h1,World.farLoad,World.noCell] at hr
   | mapIter x => simp [Sem.run,World.cell?,h1,World.farLoad,World.noCell] at hr
   | number x => simp [Sem.run,World.cell?,h1,World.farLoad,World.noCell] at hr
 | store m a v k ih =>
  rintro R w W s' (hn | ⟨rfl,a',v',k',rfl,ha,hv,hk⟩) hw ht hr
  ·exact absurd hr (hn.no hw.np _ _)
  obtain ⟨hab⟩:=ha
  rename_i b b' o sp
  have hna : ∀ cs,v ≠ .agg cs:=by rintro cs rfl; simp [Sem.run] at hr
  have hnt : ∀ cs,v ≠ .tuple cs:=by rintro cs rfl; simp [Sem.run] at hr
  have hna' : ∀ cs,v' ≠ .agg cs:=by rintro cs rfl; cases hv <;> first | exact hna _ rfl | exact hnt _ rfl | (rename_i hh; exact hh.elim)
  have hnt' : ∀ cs,v' ≠ .tuple cs:=by rintro cs rfl; cases hv <;> first | exact hnt _ rfl | (rename_i hh; exact hh.elim)
  rw [Sem.run] at hr
  rotate_left
  ·exact λ cs => hna cs
  ·exact λ cs => hnt cs
  ·obtain ⟨ob,ob',h1,h2,h3⟩:=hw.cont b b' hab
   cases h3 with
   | cells hc hz =>
    rename_i c c' T fz fz'
    cases sp with
    | some sp => simp [World.cell?,h1,World.farStore,World.noCell] at hr
    | none =>
     cases hv0 : c[o]? with
     | none => simp [World.cell?,h1,World.farStore,World.noCell,hv0] at hr
     | some v0 =>
      obtain ⟨v0',hv0',_⟩:=hc.get hv0
      have e1 : w.cell? ⟨b,o,none⟩ = some v0:=by simp [World.cell?,h1,hv0]
      have e2 : W.cell? ⟨b',o,none⟩ = some v0':=by simp [World.cell?,h2,hv0']
      rw [e1] at hr
      simp only at hr
      cases hfz : w.frozen? ⟨b,o,none⟩ with
      | true => rw [hfz] at hr; simp at hr
      | false =>
       rw [hfz] at hr
       simp only [Bool.false_eq_true,if_false] at hr
       have nfz : ¬ inFz fz o:=by
        intro ⟨z1,z2⟩
        simp [World.frozen?,h1,z1,z2] at hfz
       have hns : ¬ St b:=by
        intro hs
        obtain ⟨_,c2,T2,hi,g1,g2⟩:=hw.st b hs
        rw [h1] at g1
        injection g1 with g1
        injection g1 with g1 _ g3
        subst g1 g3
        exact nfz ⟨Nat.zero_le _,Nat.lt_of_lt_of_le (Array.getElem?_eq_some_iff.1 hv0).1 g2⟩
       have hfz' : W.frozen? ⟨b',o,none⟩ = false:=by
        simp only [World.frozen?,h2]
        cases hq : (decide (fz'.1 <= o) && decide (o < fz'.2)) with
        | false => rfl
        | true => simp at hq; exact absurd (hz o hq) nfz
       rw [setCell_eq h1] at hr
       refine Ran.after (e₁:=#[⟨.cell ⟨b',o,none⟩,true,false⟩]) (WStep.upd hw hab hns (.cells (hc.set o hv) hz)) (s₁':=k') ?_ ?_ ?_ (ih hk (WStep.upd hw hab hns (.cells (hc.set o hv) hz)).rel (ht.step (WStep.upd hw hab hns (.cells (hc.set o hv) hz))) hr)
       ·rw [Sem.run]
        rotate_left
        ·exact λ cs => hna' cs
        ·exact λ cs => hnt' cs
        rw [e2]; simp only [hfz',Bool.false_eq_true,if_false]; rw [setCell_eq h2]
       ·intro es
        unfold Sem.events
        rw [Sem.runT]
        rotate_left
        ·exact λ cs => hna' cs
        ·exact λ cs => hnt' cs
        rw [e2]; simp only [hfz',Bool.false_eq_true,if_false]; rw [setCell_eq h2]; simp [plain_ne]
       ·intro e he
        simp at he
        subst he
        exact .inr ⟨b',b,rfl,hab,λ _ => hns⟩
   | map x => simp [World.cell?,h1,World.farStore,World.noCell] at hr
   | chan x => simp [World.cell?,h1,World.farStore,World.noCell] at hr
   | stringIter x y => simp [World.cell?,h1,World.farStore,World.noCell] at hr
   | mapIter x => simp [World.cell?,h1,World.farStore,World.noCell] at hr
   | number x => simp [World.cell?,h1,World.farStore,World.noCell] at hr
 | new o k ih =>
  rintro R w W s' (hn | ⟨o',k',rfl,ho,hk⟩) hw ht hr
  ·exact absurd hr (hn.no hw.np _ _)
  rw [Sem.run] at hr
  exact Ran.after (e₁:=#[]) (WStep.push hw ho) (by rw [Sem.run]) (λ es => by unfold Sem.events; rw [Sem.runT]; simp) (λ e he => by simp at he) (ih _ (hk _ _ ⟨λ b hb => absurd (hw.lt _ _ hb).1 (Nat.lt_irrefl _),λ a ha => absurd (hw.lt _ _ ha).2 (Nat.lt_irrefl _),by subst hG; exact hw.gle⟩) (WStep.push hw ho).rel (ht.step (WStep.push hw ho)) hr)
 | shape r k ih =>
  rintro R w W s' (hn | ⟨r',k',rfl,hrr,hk⟩) hw ht hr
  ·exact absurd hr (hn.no hw.np _ _)
  rw [Sem.run] at hr
  exact Ran.after (e₁:=#[]) (.refl hw) (by rw [Sem.run,ObR.shape hw hrr]) (λ es => by unfold Sem.events; rw [Sem.runT,ObR.shape hw hrr]; simp) (λ e he => by simp at he) (ih _ (hk _) hw ht hr)
 | freeze a n k ih =>
  rintro R w W s' (hn | h) hw ht hr
  ·exact absurd hr (hn.no hw.np _ _)
  ·exact h.elim
 | frozen a k ih =>
  rintro R w W s' (hn | ⟨r',k',rfl,hk⟩) hw ht hr
  ·exact absurd hr (hn.no hw.np _ _)
  rw [Sem.run] at hr
  exact Ran.after (e₁:=#[]) (.refl hw) (by rw [Sem.run]) (λ es => by unfold Sem.events; rw [Sem.runT]; simp) (λ e he => by simp at he) (ih _ (hk _ _) hw ht hr)
 | getObj r k ih =>
  rintro R w W s' (hn | ⟨r',k',rfl,hrr,hk⟩) hw ht hr
  ·exact absurd hr (hn.no hw.np _ _)
  rw [Sem.run] at hr
  ·replace hrr : R r r':=by
    rcases hw.orR hrr with x | x
    ·exact x
    ·rw [x] at hr; simp [waste] at hr
   obtain ⟨ob,ob',h1,h2,h3⟩:=hw.cont r r' hrr
   rw [h1] at hr
   have go : (∀ c T fz,ob ≠ .cells c T fz) -> (∀ c T fz,ob' ≠ .cells c T fz) -> Ran P S K A R G St w W (.getObj r' k') x w':=by
    intro n1 n2
    refine Ran.after (e₁:=#[⟨.obj r',false,ob'.isChan⟩]) (.refl hw) (s₁':=k' ob') ?_ ?_ ?_ (ih ob (hk _ _ h3) hw ht ?_)
    ·rw [Sem.run,h2]; cases ob' <;> first | rfl | exact absurd rfl (n2 _ _ _)
    ·intro es; unfold Sem.events; rw [Sem.runT,h2]; cases ob' <;> first | (simp; done) | exact absurd rfl (n2 _ _ _)
    ·intro e he
     simp at he
     subst he
     exact .inr ⟨r',r,rfl,hrr,by simp⟩
    ·cases ob <;> first | exact hr | exact absurd rfl (n1 _ _ _)
   cases h3 with
   | cells hc hz => simp at hr
   | map x => exact go (by simp) (by simp)
   | chan x => exact go (by simp) (by simp)
   | stringIter x y => exact go (by simp) (by simp)
   | mapIter x => exact go (by simp) (by simp)
   | number x => exact go (by simp) (by simp)
 | setObj r o k ih =>
  rintro R w W s' (hn | ⟨r',o',k',rfl,hrr,ho,hk⟩) hw ht hr
  ·exact absurd hr (hn.no hw.np _ _)
  rw [Sem.run] at hr
  ·replace hrr : R r r':=by
    rcases hw.orR hrr with x | x
    ·exact x
    ·rw [x] at hr; simp [waste] at hr
   obtain ⟨ob,ob',h1,h2,h3⟩:=hw.cont r r' hrr
   rw [h1] at hr
   have go : (∀ c T fz,ob ≠ .cells c T fz) -> (∀ c T fz,ob' ≠ .cells c T fz) -> Ran P S K A R G St w W (.setObj r' o' k') x w':=by
    intro n1 n2
    have hns : ¬ St r:=by
     intro hs
     obtain ⟨_,c2,T2,hi,g1,g2⟩:=hw.st r hs
     rw [h1] at g1
     injection g1 with g1
     exact n1 _ _ _ g1
    refine Ran.after (e₁:=#[⟨.obj r',true,o'.isChan⟩]) (WStep.upd hw hrr hns ho) (s₁':=k') ?_ ?_ ?_ (ih hk (WStep.upd hw hrr hns ho).rel (ht.step (WStep.upd hw hrr hns ho)) ?_)
    ·rw [Sem.run,h2]; cases ob' <;> first | rfl | exact absurd rfl (n2 _ _ _)
    ·intro es; unfold Sem.events; rw [Sem.runT,h2]; cases ob' <;> first | (simp; done) | exact absurd rfl (n2 _ _ _)
    ·intro e he
     simp at he
     subst he
     exact .inr ⟨r',r,rfl,hrr,λ _ => hns⟩
    ·cases ob <;> first | exact hr | exact absurd rfl (n1 _ _ _)
   cases h3 with
   | cells hc hz => simp at hr
   | map x => exact go (by simp) (by simp)
   | chan x => exact go (by simp) (by simp)
   | stringIter x y => exact go (by simp) (by simp)
   | mapIter x => exact go (by simp) (by simp)
   | number x => exact go (by simp) (by simp)
 | choose q k ih =>
  rintro R w W s' (hn | ⟨k',rfl,hk⟩) hw ht hr
  ·exact absurd hr (hn.no hw.np _ _)
  rw [Sem.run] at hr
  cases hq : q.forced with
  | true =>
   rw [hq] at hr
   simp only [if_true] at hr
   exact Ran.after (e₁:=#[]) (.refl hw) (by rw [Sem.run,hq]; simp) (λ es => by unfold Sem.events; rw [Sem.runT,hq]; simp) (λ e he => by simp at he) (ih 0 (hk 0) hw ht hr)
  | false =>
   rw [hq] at hr
   simp only [Bool.false_eq_true,if_false] at hr
   have ea : w.tape w.drawn q = W.tape W.drawn q:=ht 0 q
   rw [ea] at hr
   exact Ran.after (e₁:=#[]) (WStep.draw hw) (by rw [Sem.run,hq]; simp) (λ es => by unfold Sem.events; rw [Sem.runT,hq]; simp) (λ e he => by simp at he) (ih _ (hk _) (WStep.draw hw).rel (ht.step (WStep.draw hw)) hr)
 | sys c k ih =>
  rintro R w W s' (hn | h) hw ht hr
  ·exact absurd hr (hn.no hw.np _ _)
  ·exact h.elim
 | program k ih =>
  rintro R w W s' (hn | ⟨k',rfl,hk⟩) hw ht hr
  ·exact absurd hr (hn.no hw.np _ _)
  rw [Sem.run] at hr
  exact Ran.after (e₁:=#[]) (.refl hw) (by rw [Sem.run]) (λ es => by unfold Sem.events; rw [Sem.runT]; simp) (λ e he => by simp at he) (ih _ hk hw ht hr)
 | mark m k ih =>
  rintro R w W s' (hn | ⟨rfl,k',rfl,hk⟩) hw ht hr
  ·exact absurd hr (hn.no hw.np _ _)
  ·rw [Sem.run] at hr
   exact Ran.after (e₁:=#[⟨.mark .noRoom,false,true⟩]) (.refl hw) (by rw [Sem.run]) (λ es => by unfold Sem.events; rw [Sem.runT]; simp) (λ e he => by simp at he; exact .inl he) (ih hk hw ht hr)
 | halt h => rintro R w W s' _ hw ht hr; simp [Sem.run] at hr
end Go.Tt
namespace Go.Tt
section
variable {P : Pair} {S : FuncId -> Prop} {K : Pr} {α β γ δ : Type} {R : Pr}
abbrev EqA {α : Type} : Pr -> α -> α -> Prop:=λ _ a b => a = b
abbrev VA (S : FuncId -> Prop) (K : Pr) : Pr -> Value -> Value -> Prop:=λ R v v' => VR S K R v v'
theorem Sim.bnd {A : Pr -> α -> β -> Prop} {B : Pr -> γ -> δ -> Prop} {s : Sem α} {s' : Sem β} {f : α -> Sem γ} {f' : β -> Sem δ} (h : Sim P S K A s R s') (hf : ∀ R',Ext P K R R' -> ∀ a b,A R' a b -> Sim P S K B (f a) R' (f' b)) :
  Sim P S K B (s >>= f) R (s' >>= f'):=Sim.bind h hf
theorem Sim.ret {A : Pr -> α -> β -> Prop} {a : α} {b : β} (h : A R a b) : Sim P S K A (Pure.pure a : Sem α) R (Pure.pure b : Sem β):=Sim.pure h
theorem never_stuck {why : String} : Never P (stuck why : Sem α):=Never.halt trivial
theorem never_unsupported {u : Unsupported} (hu : TameH (.unsupported u):=by trivial) : Never P (unsupported u : Sem α):=Never.halt hu
theorem never_goPanic {v : Value} : Never P (goPanic v : Sem α):=Never.halt trivial
theorem Never.bnd {s : Sem α} (h : Never P s) (f : α -> Sem β) : Never P (s >>= f):=h.bind f
def Soft (P : Pair) (s : Sem α) : Prop:=∀ w,NoPend w -> (∃ a w',s.run P.g w = .ok a w' /\ NoPend w') \/ ∃ h w',s.run P.g w = .halt h w' /\ TameH h
theorem Soft.never {s : Sem α} (h : Never P s) : Soft P s:=λ w hw => .inr (h w hw)
theorem Soft.ret (a : α) : Soft P (Pure.pure a : Sem α):=λ w hw => .inl ⟨a,w,rfl,hw⟩
theorem Soft.bnd {s : Sem α} {f : α -> Sem β} (h : Soft P s) (hf : ∀ a,Soft P (f a)) : Soft P (s >>= f):=by
 intro w hw
 have e : (s >>= f).run P.g w = _:=Sem.run_bind' P.g s f w
 rcases h w hw with ⟨a,w',h1,h2⟩ | ⟨y,w',h1,h2⟩
 ·rcases hf a w' h2 with ⟨b,w2,h3,h4⟩ | ⟨y,w2,h3,h4⟩
  ·exact .inl ⟨b,w2,by rw [e,h1]; exact h3,h4⟩
  ·exact .inr ⟨y,w2,by rw [e,h1]; exact h3,h4⟩
 ·exact .inr ⟨y,w',by rw [e,h1]; rfl,h2⟩
theorem soft_program : Soft P program:=λ w hw => .inl ⟨P.g,w,rfl,hw⟩
theorem soft_choose (q : Question) : Soft P (choose q):=λ w hw => by
 unfold choose Sem.run
 split
 ·exact .inl ⟨0,w,rfl,hw⟩
 ·exact .inl ⟨_,_,rfl,hw⟩
theorem soft_shape (r : Nat) : Soft P (shape r):=λ w hw => .inl ⟨_,w,rfl,hw⟩
theorem soft_newObj {o : Obj} (ho : ∀ c e,o ≠ .pending c e) : Soft P (newObj o):=λ w hw => .inl ⟨_,_,rfl,NoPend.push hw ho⟩
theorem soft_underlying (t : TypeId) : Soft P (underlying t):=by
 unfold underlying
 refine soft_program.bnd λ p => ?_
 split
 ·exact Soft.ret _
 ·exact .never never_stuck
theorem soft_newVar (t : TypeId) (v : Value) : Soft P (newVar t v):=by
 unfold newVar newRow
 exact (soft_newObj (by simp)).bnd λ _ => Soft.ret _
theorem soft_elemOf (t : TypeId) : Soft P (elemOf t):=by
 unfold elemOf
 refine (soft_underlying t).bnd λ d => ?_
 split
 ·exact Soft.ret _
 ·exact .never never_stuck
theorem soft_frozen (a : Addr) : Soft P (frozen a):=λ w hw => .inl ⟨_,w,rfl,hw⟩
theorem soft_mark (m : Mark) : Soft P (mark m):=λ w hw => .inl ⟨_,w,rfl,hw⟩
theorem soft_holdsCells (a : Addr) (n : Nat) : Soft P (Builtin.holdsCells a n):=by
 unfold Builtin.holdsCells
 refine (soft_shape _).bnd λ x => ?_
 split <;> exact Soft.ret _
theorem soft_mayShare (size sLen n : Nat) (base : Option Addr) (x : Value) : Soft P (Builtin.mayShare size sLen n base x):=by
 unfold Builtin.mayShare
 have tail : ∀ b : Bool,Soft P (match x with
   | .slice (some b) _ _ => do pure (!(<- Builtin.holdsCells b (n * size)) || base.any (·.block == b.block))
   | _ => pure false : Sem Bool):=λ _ => by
  split
  ·exact (soft_holdsCells _ _).bnd λ _ => Soft.ret _
  ·exact Soft.ret _
 cases base with
 | none =>
  refine (Soft.ret true).bnd λ there => ?_
  cases there
  ·exact Soft.ret _
  ·exact tail true
 | some a =>
  refine (soft_holdsCells _ _).bnd λ h1 => (soft_frozen _).bnd λ h2 => ?_
  refine (Soft.ret _).bnd λ there => ?_
  cases there
  ·exact Soft.ret _
  ·exact tail true
theorem Never.then {s : Sem α} {f : α -> Sem β} (hs : Soft P s) (h : ∀ a,Never P (f a)) : Never P (s >>= f):=by
 intro w hw
 have e : (s >>= f).run P.g w = _:=Sem.run_bind' P.g s f w
 rcases hs w hw with ⟨a,w',h1,h2⟩ | ⟨y,w',h1,h2⟩
 ·obtain ⟨y,w2,h3,h4⟩:=h a w' h2
  exact ⟨y,w2,by rw [e,h1]; exact h3,h4⟩
 ·exact ⟨y,w',by rw [e,h1]; rfl,h2⟩
theorem never_runtimePanic {e : RuntimeError} : Never P (runtimePanic e : Sem α):=by
 unfold runtimePanic
 refine Never.then soft_program λ p => ?_
 cases e <;> first | exact never_goPanic | (refine Never.then (soft_elemOf _) λ _ => ?_; refine Never.then (soft_newVar _ _) λ _ => ?_; exact never_goPanic)
theorem never_boundsPanic {k : IntKind} {x y : Int} {c : BoundsCode} : Never P (boundsPanic k x y c : Sem α):=by
 unfold boundsPanic
 simp only
 split
 ·refine Never.then ?_ λ _ => never_runtimePanic
  exact (soft_choose _).bnd λ _ => Soft.ret _
 ·exact Never.then (Soft.ret _) λ _ => never_runtimePanic
theorem sim_program : Sim P S K (λ _ a b => a = P.g /\ b = P.c) program R program:=.inr ⟨_,rfl,.inr ⟨P.c,rfl,rfl,rfl⟩⟩
theorem sim_choose (q : Question) : Sim P S K EqA (choose q) R (choose q):=.inr ⟨_,rfl,λ n => .inr ⟨n,rfl,rfl⟩⟩
theorem sim_underlying (t : TypeId) : Sim P S K (λ _ a b => a = b /\ P.underlying t = some a) (underlying t) R (underlying t):=by
 unfold underlying
 refine Sim.bnd sim_program ?_
 rintro R' _ a b ⟨ha,hb⟩
 rw [ha,hb,P.underlying_g]
 cases h : P.c.underlying t with
 | some d => exact Sim.ret ⟨rfl,h⟩
 | none => exact .inl never_stuck
theorem sim_typeInfo (t : TypeId) : Sim P S K (λ _ a b => a = b /\ P.info? t = some a) (typeInfo t) R (typeInfo t):=by
 unfold typeInfo
 refine Sim.bnd sim_program ?_
 rintro R' _ a b ⟨ha,hb⟩
 rw [ha,hb,P.info_g]
 cases h : P.c.info? t with
 | some d => exact Sim.ret ⟨rfl,h⟩
 | none => exact .inl never_stuck
def ZeroOk (P : Pair) (S : FuncId -> Prop) : Prop:=∀ (K R : Pr) t i z,P.info? t = some i -> i.zero = some z -> VR S K R z z
theorem sim_zeroValue (hz : ZeroOk P S) (t : TypeId) : Sim P S K (VA S K) (zeroValue t) R (zeroValue t):=by
 unfold zeroValue
 refine Sim.bnd (sim_typeInfo t) ?_
 rintro R' _ a b ⟨rfl,h⟩
 cases h2 : a.zero with
 | some z => exact Sim.ret (hz K R' t a z h h2)
 | none => exact .inl never_unsupported
theorem sim_sizeOf (t : TypeId) : Sim P S K EqA (sizeOf t) R (sizeOf t):=by
 unfold sizeOf
 refine Sim.bnd (sim_typeInfo t) ?_
 rintro R' _ a b ⟨rfl,h⟩
 exact Sim.ret rfl
theorem sim_isAgg (t : TypeId) : Sim P S K EqA (isAgg t) R (isAgg t):=by
 unfold isAgg
 refine Sim.bnd (sim_underlying t) ?_
 rintro R' _ a b ⟨rfl,h⟩
 cases a <;> exact Sim.ret rfl
theorem sim_asIntOf {v v' : Value} (h : VR S K R v v') : Sim P S K EqA (asIntOf v) R (asIntOf v'):=by
 cases h with
 | int k n => exact Sim.ret rfl
 | pointer x => cases x <;> first | exact .inl never_unsupported | exact .inl never_stuck
 | _ => exact .inl never_stuck
theorem sim_asInt {v v' : Value} (h : VR S K R v v') : Sim P S K EqA (asInt v) R (asInt v'):=by
 unfold asInt
 refine Sim.bnd (sim_asIntOf h) ?_
 rintro R' _ a b rfl
 exact Sim.ret rfl
theorem sim_asBool {v v' : Value} (h : VR S K R v v') : Sim P S K EqA (asBool v) R (asBool v'):=by
 cases h with
 | bool b => exact Sim.ret rfl
 | _ => exact .inl never_stuck
theorem sim_asAgg {v v' : Value} (h : VR S K R v v') : Sim P S K (λ R a b => ArR S K R a b) (asAgg v) R (asAgg v'):=by
 cases h with
 | agg e h => exact Sim.ret ⟨e,h⟩
 | _ => exact .inl never_stuck
theorem sim_asAddr {v v' : Value} (h : VR S K R v v') : Sim P S K (λ R a b => AdR R a b) (asAddr v) R (asAddr v'):=by
 cases h with
 | pointer x =>
  cases x with
  | none => exact .inl (by unfold asAddr; exact never_runtimePanic)
  | some x => exact Sim.ret x
 | _ => exact .inl never_stuck
theorem sim_sureAddr {v v' : Value} (h : VR S K R v v') : Sim P S K (λ R a b => AdR R a b) (Instr.sureAddr v) R (Instr.sureAddr v'):=by
 cases h with
 | pointer x =>
  cases x with
  | none => exact .inl never_stuck
  | some x => exact Sim.ret x
 | _ => exact .inl never_stuck
theorem sim_load {a a' : Addr} (h : AdR R a a') : Sim P S K (VA S K) (load a) R (load a'):=.inr ⟨rfl,a',_,rfl,h,λ v v' hv => .inr ⟨v',rfl,hv⟩⟩
theorem sim_store {a a' : Addr} {v v' : Value} (h : AdR R a a') (hv : VR S K R v v') : Sim P S K EqA (store a v) R (store a' v'):=.inr ⟨rfl,a',v',_,rfl,h,hv,.inr ⟨(),rfl,rfl⟩⟩
theorem sim_newObj {o o' : Obj} (h : ObR S K R o o') : Sim P S K (λ R a b => R a b) (newObj o) R (newObj o'):=.inr ⟨o',_,rfl,h,λ n n' _ => .inr ⟨n',rfl,.inr ⟨rfl,rfl⟩⟩⟩
theorem sim_shape {r r' : Nat} (h : R r r') : Sim P S K EqA (shape r) R (shape r'):=.inr ⟨r',_,rfl,h,λ x => .inr ⟨x,rfl,rfl⟩⟩
theorem sim_getObj {r r' : Nat} (h : R r r') : Sim P S K (λ R o o' => ObR S K R o o') (getObj r) R (getObj r'):=.inr ⟨r',_,rfl,.inl h,λ o o' ho => .inr ⟨o',rfl,ho⟩⟩
theorem sim_setObj {r r' : Nat} {o o' : Obj} (h : R r r') (ho : ObR S K R o o') : Sim P S K EqA (setObj r o) R (setObj r' o'):=.inr ⟨r',o',_,rfl,.inl h,ho,.inr ⟨(),rfl,rfl⟩⟩
theorem sim_getObjK {r r' : Nat} (h : R.or K r r') : Sim P S K (λ R o o' => ObR S K R o o') (getObj r) R (getObj r'):=.inr ⟨r',_,rfl,h,λ o o' ho => .inr ⟨o',rfl,ho⟩⟩
theorem sim_setObjK {r r' : Nat} {o o' : Obj} (h : R.or K r r') (ho : ObR S K R o o') : Sim P S K EqA (setObj r o) R (setObj r' o'):=.inr ⟨r',o',_,rfl,h,ho,.inr ⟨(),rfl,rfl⟩⟩
theorem sim_askRoom (n : Nat) : Sim P S K EqA (askRoom n) R (askRoom n):=by
 unfold askRoom
 split
 ·exact .inr ⟨rfl,_,rfl,.inr ⟨(),rfl,rfl⟩⟩
 ·exact Sim.ret rfl
theorem AdR.add {a a' : Addr} (h : AdR R a a') (n : Nat) : AdR R (a.add n) (a'.add n):=by
 cases h with
 | mk h => unfold Addr.add; split <;> exact .mk h
theorem OaR.map {a a' : Option Addr} (h : OaR R a a') (n : Nat) : OaR R (a.map (·.add n)) (a'.map (·.add n)):=by
 cases h with
 | none => exact .none
 | some h => exact .some (h.add n)
theorem sim_loadCellsFrom {a a' : Addr} : ∀ (n i : Nat) {R : Pr} {acc acc' : Array Value},AdR R a a' -> ArR S K R acc acc' -> Sim P S K (λ R x y => ArR S K R x y) (loadCellsFrom a i n acc) R (loadCellsFrom a' i n acc')
 | 0,i,R,acc,acc',h,hc => Sim.ret hc
 | n + 1,i,R,acc,acc',h,hc => by
  unfold loadCellsFrom
  refine Sim.bnd (sim_load (h.add i)) ?_
  intro R' hR v v' hv
  exact sim_loadCellsFrom n (i + 1) (h.mono hR.le) ((hc.mono hR.le).push hv)
theorem sim_loadCells {a a' : Addr} (h : AdR R a a') (n : Nat) : Sim P S K (λ R x y => ArR S K R x y) (loadCells a n) R (loadCells a' n):=sim_loadCellsFrom n 0 h ArR.empty
def LsR (S : FuncId -> Prop) (K R : Pr) (xs xs' : List Value) : Prop:=xs.length = xs'.length /\ ∀ (i : Nat) (v v' : Value),xs[i]? = some v -> xs'[i]? = some v' -> VR S K R v v'
theorem ArR.toList {xs xs' : Array Value} (h : ArR S K R xs xs') : LsR S K R xs.toList xs'.toList:=⟨by simpa using h.1,λ i v v' h1 h2 => h.2 i v v' (by simpa using h1) (by simpa using h2)⟩
theorem LsR.mono {R' : Pr} (hR : R.le R') {xs xs' : List Value} (h : LsR S K R xs xs') : LsR S K R' xs xs':=⟨h.1,λ i v v' h1 h2 => (h.2 i v v' h1 h2).mono hR⟩
theorem LsR.cons {x x' : Value} {xs xs' : List Value} (h : LsR S K R (x :: xs) (x' :: xs')) : VR S K R x x' /\ LsR S K R xs xs':=
 ⟨h.2 0 x x' rfl rfl,by simpa using h.1,λ i v v' h1 h2 => h.2 (i + 1) v v' (by simpa using h1) (by simpa using h2)⟩
theorem sim_storeCells {a a' : Addr} : ∀ (vs vs' : List Value) (i : Nat) {R : Pr},AdR R a a' -> LsR S K R vs vs' -> Sim P S K EqA (storeCells a vs i) R (storeCells a' vs' i)
 | [],[],i,R,h,hv => Sim.ret rfl
 | [],_ :: _,i,R,h,hv => by have:=hv.1; simp at this
 | _ :: _,[],i,R,h,hv => by have:=hv.1; simp at this
 | v :: vs,v' :: vs',i,R,h,hv => by
  unfold storeCells
  obtain ⟨h1,h2⟩:=hv.cons
  refine Sim.bnd (sim_store (h.add i) h1) ?_
  intro R' hR _ _ _
  exact sim_storeCells vs vs' (i + 1) (h.mono hR.le) (h2.mono hR.le)
theorem sim_loadVar (t : TypeId) {a a' : Addr} (h : AdR R a a') : Sim P S K (VA S K) (loadVar t a) R (loadVar t a'):=by
 unfold loadVar
 refine Sim.bnd (sim_isAgg t) ?_
 rintro R1 h1 b _ rfl
 cases b with
 | true =>
  simp only [if_true]
  refine Sim.bnd (sim_sizeOf t) ?_
  rintro R2 h2 n _ rfl
  refine Sim.bnd (sim_loadCells ((h.mono h1.le).mono h2.le) n) ?_
  intro R3 h3 x y hxy
  exact Sim.ret (VR.agg' hxy)
 | false => simpa using sim_load (h.mono h1.le)
theorem sim_storeVar (t : TypeId) {a a' : Addr} {v v' : Value} (h : AdR R a a') (hv : VR S K R v v') : Sim P S K EqA (storeVar t a v) R (storeVar t a' v'):=by
 unfold storeVar
 refine Sim.bnd (sim_sizeOf t) ?_
 rintro R1 h1 n _ rfl
 have hc:=hv.cells
 rw [<- hc.1]
 split
 ·exact .inl (never_stuck.bnd _)
 ·exact sim_storeCells _ _ 0 (h.mono h1.le) ((hc.mono h1.le).toList)
theorem sim_newRow (e : TypeId) {c c' : Array Value} (h : ArR S K R c c') : Sim P S K (λ R a b => AdR R a b) (newRow e c) R (newRow e c'):=by
 unfold newRow
 refine Sim.bnd (sim_newObj (.cells h λ o ho => ho)) ?_
 intro R1 h1 n n' hn
 exact Sim.ret (.mk hn)
theorem sim_newVar (t : TypeId) {v v' : Value} (h : VR S K R v v') : Sim P S K (λ R a b => AdR R a b) (newVar t v) R (newVar t v'):=sim_newRow t h.cells
theorem sim_part (t : TypeId) {c c' : Array Value} (h : ArR S K R c c') (off : Nat) : Sim P S K (VA S K) (part t c off) R (part t c' off):=by
 unfold part
 refine Sim.bnd (sim_isAgg t) ?_
 rintro R1 h1 b _ rfl
 cases b with
 | true =>
  simp only [if_true]
  refine Sim.bnd (sim_sizeOf t) ?_
  rintro R2 h2 n _ rfl
  exact Sim.ret (VR.agg' (((h.mono h1.le).mono h2.le).extract _ _))
 | false =>
  simp only [Bool.false_eq_true,if_false]
  cases hc : c[off]? with
  | none => exact .inl never_stuck
  | some v => obtain ⟨v',hv',hvv⟩:=(h.mono h1.le).get hc; rw [hv']; exact Sim.ret hvv
end
end Go.Tt
namespace Go.Tt
section
variable {P : Pair} {S : FuncId -> Prop} {K : Pr} {α β γ δ : Type} {R : Pr}
theorem sim_alloc (hz : ZeroOk P S) (e : TypeId) : Sim P S K (VA S K) (Instr.alloc e true (.tuple #[])) R (Instr.alloc e true (.tuple #[])):=by
 unfold Instr.alloc
 refine Sim.bnd (sim_zeroValue hz e) ?_
 intro R1 h1 z z' hzz
 refine Sim.bnd (sim_newVar e hzz) ?_
 intro R2 h2 a a' ha
 exact Sim.ret (.pointer (.some ha))
theorem sim_box (e : TypeId) {v v' : Value} (h : VR S K R v v') : Sim P S K (VA S K) (Instr.box e v) R (Instr.box e v'):=by
 unfold Instr.box
 refine Sim.bnd (sim_newVar e h) ?_
 intro R2 h2 a a' ha
 exact Sim.ret (.pointer (.some ha))
theorem sim_loadAt (t : TypeId) {v v' : Value} (h : VR S K R v v') : Sim P S K (VA S K) (Instr.loadAt t v) R (Instr.loadAt t v'):=by
 unfold Instr.loadAt
 refine Sim.bnd (sim_sureAddr h) ?_
 intro R1 h1 a a' ha
 exact sim_loadVar t ha
theorem sim_storeAt (t : TypeId) {a a' v v' : Value} (h : VR S K R a a') (hv : VR S K R v v') : Sim P S K EqA (Instr.storeAt t a v) R (Instr.storeAt t a' v'):=by
 unfold Instr.storeAt
 refine Sim.bnd (sim_sureAddr h) ?_
 intro R1 h1 a a' ha
 exact sim_storeVar t ha (hv.mono h1.le)
theorem sim_viewAt {r r' : Nat} (h : R r r') : Sim P S K (λ _ a b => a = none /\ b = none) (viewAt r) R (viewAt r'):=by
 unfold viewAt
 refine Sim.bnd (sim_shape h) ?_
 rintro R1 h1 x _ rfl
 cases x with
 | some x => exact Sim.ret ⟨rfl,rfl⟩
 | none =>
  refine Sim.bnd (sim_getObj (h1.le _ _ h)) ?_
  intro R2 h2 o o' ho
  cases ho <;> exact Sim.ret ⟨rfl,rfl⟩
theorem sim_noView {a a' : Addr} (h : AdR R a a') : Sim P S K EqA (noView a) R (noView a'):=by
 cases h with
 | mk h =>
  unfold noView
  refine Sim.bnd (sim_viewAt h) ?_
  rintro R1 h1 _ _ ⟨rfl,rfl⟩
  exact Sim.ret rfl
theorem sim_byteOf {a a' : Addr} (h : AdR R a a') : Sim P S K EqA (byteOf a) R (byteOf a'):=by
 have h0:=h
 cases h with
 | mk h =>
  rename_i b b' o sp
  unfold byteOf
  cases sp with
  | some s => exact Sim.ret rfl
  | none =>
   refine Sim.bnd sim_program ?_
   rintro R1 h1 p q ⟨rfl,rfl⟩
   refine Sim.bnd (sim_noView (h0.mono h1.le)) ?_
   rintro R2 h2 _ _ _
   refine Sim.bnd (sim_shape (h2.le _ _ (h1.le _ _ h))) ?_
   rintro R3 h3 x _ rfl
   cases x with
   | none => exact .inl never_stuck
   | some x =>
    obtain ⟨e,n⟩:=x
    simp only [P.cells_g,P.bytes_g,P.depth_g,P.byteOfCell_g]
    split
    ·exact Sim.ret rfl
    ·split
     ·exact Sim.ret rfl
     ·exact .inl never_stuck
theorem sim_partAt {a a' : Addr} (h : AdR R a a') (c b : Nat) : Sim P S K (λ R a b => AdR R a b) (partAt a c b) R (partAt a' c b):=by
 unfold partAt
 refine Sim.bnd (sim_byteOf h) ?_
 rintro R1 h1 n _ rfl
 have h':=h.mono h1.le
 cases h' with
 | mk h' =>
  refine Sim.bnd (sim_byteOf (.mk h')) ?_
  rintro R2 h2 m _ rfl
  split <;> exact Sim.ret (.mk (h2.le _ _ h'))
theorem sim_fieldPlace {a a' : Addr} (h : AdR R a a') (f : Field) : Sim P S K (λ R a b => AdR R a b) (fieldPlace a f) R (fieldPlace a' f):=by
 unfold fieldPlace
 refine Sim.bnd (sim_sizeOf f.type) ?_
 rintro R1 h1 n _ rfl
 split
 ·exact sim_partAt (h.mono h1.le) _ _
 ·exact Sim.ret ((h.mono h1.le).add _)
theorem sim_fieldAt (s : TypeId) {v v' : Value} (h : VR S K R v v') (f : Nat) : Sim P S K (VA S K) (Instr.fieldAt s v f) R (Instr.fieldAt s v' f):=by
 unfold Instr.fieldAt
 refine Sim.bnd (sim_underlying s) ?_
 rintro R1 h1 d _ ⟨rfl,hd⟩
 cases d with
 | struct fields =>
  simp only
  cases hf : fields[f]? with
  | none => exact .inl never_stuck
  | some fl =>
   refine Sim.bnd (sim_sureAddr (h.mono h1.le)) ?_
   intro R2 h2 a a' ha
   refine Sim.bnd (sim_fieldPlace ha fl) ?_
   intro R3 h3 b b' hb
   exact Sim.ret (.pointer (.some hb))
 | _ => exact .inl never_stuck
theorem sim_field (t : TypeId) {v v' : Value} (h : VR S K R v v') (f : Nat) : Sim P S K (VA S K) (Instr.field t v f) R (Instr.field t v' f):=by
 unfold Instr.field
 refine Sim.bnd (sim_underlying t) ?_
 rintro R1 h1 d _ ⟨rfl,hd⟩
 cases d with
 | struct fields =>
  simp only
  cases hf : fields[f]? with
  | none => exact .inl never_stuck
  | some fl =>
   refine Sim.bnd (sim_asAgg (h.mono h1.le)) ?_
   intro R2 h2 a a' ha
   exact sim_part _ ha _
 | _ => exact .inl never_stuck
def indexTail (t : TypeId) (k : IntKind) (i : Int) (b : Option Addr) (len : Nat) (elem : TypeId) : Sem Value:=do
 let tiny:=len <= 1 && (match <- underlying t with | .array .. => true | _ => false)
 match b with
 | some a =>
  if 0 <= i /\ i < len then pure (.pointer (some (a.add (i.toNat * (<- sizeOf elem)))))
  else if tiny then unsupported (.noEntry "op/indexAddr.an index out of range at an array of length 0 or 1 (ledger 616)")
  else boundsPanic k i len .index
 | none => boundsPanic k i 0 .index
theorem sim_indexTail (t : TypeId) (k : IntKind) (i : Int) {b b' : Option Addr} (h : OaR R b b') (len : Nat) (elem : TypeId) : Sim P S K (VA S K) (indexTail t k i b len elem) R (indexTail t k i b' len elem):=by
 unfold indexTail
 refine Sim.bnd (sim_underlying t) ?_
 rintro R3 h3 d _ ⟨rfl,hd⟩
 have hb':=h.mono h3.le
 cases hb' with
 | none => exact .inl never_boundsPanic
 | some ha =>
  simp only
  split
  ·refine Sim.bnd (sim_sizeOf elem) ?_
   rintro R4 h4 sz _ rfl
   exact Sim.ret (.pointer (.some ((ha.mono h4.le).add _)))
  ·refine .inl ?_
   split <;> first | exact never_unsupported | exact never_boundsPanic | (split <;> first | exact never_unsupported | exact never_boundsPanic)
theorem sim_indexAt (t : TypeId) {v v' i i' : Value} (h : VR S K R v v') (hi : VR S K R i i') : Sim P S K (VA S K) (Instr.indexAt t v i) R (Instr.indexAt t v' i'):=by
 unfold Instr.indexAt
 refine Sim.bnd (sim_asIntOf hi) ?_
 rintro R1 h1 ⟨k,n⟩ _ rfl
 refine Sim.bnd (sim_underlying t) ?_
 rintro R2 h2 d _ ⟨rfl,hd⟩
 have hv:=(h.mono h1.le).mono h2.le
 cases d with
 | array len elem =>
  refine Sim.bnd (sim_sureAddr hv) ?_
  intro R3 h3 a a' ha
  exact sim_indexTail t k n (.some ha) len elem
 | slice elem =>
  cases hv with
  | slice ho => exact sim_indexTail t k n ho _ elem
  | _ => exact .inl (never_stuck.bnd _)
 | _ => exact .inl (never_stuck.bnd _)
theorem sim_index (t : TypeId) {v v' i i' : Value} (h : VR S K R v v') (hi : VR S K R i i') : Sim P S K (VA S K) (Instr.index t v i) R (Instr.index t v' i'):=by
 unfold Instr.index
 refine Sim.bnd (sim_asIntOf hi) ?_
 rintro R1 h1 ⟨k,n⟩ _ rfl
 refine Sim.bnd (sim_underlying t) ?_
 rintro R2 h2 d _ ⟨rfl,hd⟩
 have hv:=(h.mono h1.le).mono h2.le
 cases d with
 | array len elem =>
  cases hv with
  | agg e hc =>
   simp only
   split
   ·refine Sim.bnd (sim_sizeOf elem) ?_
    rintro R3 h3 sz _ rfl
    exact sim_part elem (ArR.mono h3.le ⟨e,hc⟩) _
   ·exact .inl never_boundsPanic
  | _ => exact .inl never_stuck
 | string =>
  cases hv with
  | string s =>
   simp only
   split
   ·exact Sim.ret (.int _ _)
   ·exact .inl never_boundsPanic
  | _ => exact .inl never_stuck
 | _ => exact .inl never_stuck
theorem sim_sliceBound {v v' : Value} (h : VR S K R v v') (y : Nat) (c : BoundsCode) : Sim P S K EqA (Instr.sliceBound v y c) R (Instr.sliceBound v' y c):=by
 unfold Instr.sliceBound
 refine Sim.bnd (sim_asIntOf h) ?_
 rintro R1 h1 ⟨k,n⟩ _ rfl
 simp only
 split
 ·exact Sim.ret rfl
 ·exact .inl never_boundsPanic
inductive OvR (S : FuncId -> Prop) (K R : Pr) : Option Value -> Option Value -> Prop
 | none : OvR S K R none none
 | some {v v' : Value} : VR S K R v v' -> OvR S K R (some v) (some v')
theorem OvR.mono {R' : Pr} (h : R.le R') {v v' : Option Value} (x : OvR S K R v v') : OvR S K R' v v':=by cases x with | none => exact .none | some x => exact .some (x.mono h)
theorem sim_sliceBounds (b : Bool) (len cap : Nat) {lo lo' hi hi' mx mx' : Option Value} (hl : OvR S K R lo lo') (hh : OvR S K R hi hi') (hm : OvR S K R mx mx') :
  Sim P S K EqA (Instr.sliceBounds b len cap lo hi mx) R (Instr.sliceBounds b len cap lo' hi' mx'):=by
 have nd : ∀ {R1 : Pr},Ext P K R R1 -> ∀ (m h : Nat) (c : BoundsCode),Sim P S K (EqA (α:=Nat × Nat × Nat)) (match lo with | some v => (do let l <- Instr.sliceBound v h c; pure (l,h,m)) | none => pure (0,h,m)) R1 (match lo' with | some v => (do let l <- Instr.sliceBound v h c; pure (l,h,m)) | none => pure (0,h,m)):=by
  intro R1 h1 m h c
  cases hl with
  | none => exact Sim.ret rfl
  | some z =>
   refine Sim.bnd (sim_sliceBound (z.mono h1.le) h c) ?_
   rintro R2 h2 l _ rfl
   exact Sim.ret rfl
 unfold Instr.sliceBounds
 cases hm with
 | none =>
  cases hh with
  | none => cases hl with
   | none => exact Sim.ret rfl
   | some z => exact nd (Ext.refl R) cap len (if (none : Option Value).isSome then .slice3C else .sliceB)
  | some x =>
   refine Sim.bind (α:=Nat) (A:=EqA) (s:=Instr.sliceBound _ cap (if b then .sliceAcap else .sliceAlen)) (s':=Instr.sliceBound _ cap (if b then .sliceAcap else .sliceAlen)) (sim_sliceBound x _ _) ?_
   rintro R2 h2 h _ rfl
   cases hl with
   | none => exact Sim.ret rfl
   | some z => exact nd h2 cap h (if (none : Option Value).isSome then .slice3C else .sliceB)
 | some y =>
  refine Sim.bnd (sim_sliceBound y _ _) ?_
  rintro R1 h1 m _ rfl
  cases hh with
  | none => exact .inl (never_stuck.bnd _)
  | some x =>
   refine Sim.bnd (sim_sliceBound (x.mono h1.le) _ _) ?_
   rintro R2 h2 h _ rfl
   cases hl with
   | none => exact Sim.ret rfl
   | some z =>
    refine Sim.bnd (sim_sliceBound ((z.mono h1.le).mono h2.le) _ _) ?_
    rintro R3 h3 l _ rfl
    exact Sim.ret rfl
theorem sim_slice (t : TypeId) {v v' : Value} {lo lo' hi hi' mx mx' : Option Value} (h : VR S K R v v') (hl : OvR S K R lo lo') (hh : OvR S K R hi hi') (hm : OvR S K R mx mx') :
  Sim P S K (VA S K) (Instr.slice t v lo hi mx) R (Instr.slice t v' lo' hi' mx'):=by
 unfold Instr.slice
 refine Sim.bnd (sim_underlying t) ?_
 rintro R1 h1 d _ ⟨rfl,hd⟩
 have hv:=h.mono h1.le
 cases d with
 | string =>
  cases hv with
  | string s =>
   simp only
   cases hm with
   | some y => exact .inl (never_stuck.bnd _)
   | none =>
    refine Sim.bnd (sim_sliceBounds _ _ _ (hl.mono h1.le) (hh.mono h1.le) .none) ?_
    rintro R2 h2 ⟨l,h,m⟩ _ rfl
    exact Sim.ret (.string _)
  | _ => exact .inl never_stuck
 | slice elem =>
  cases hv with
  | slice ho =>
   refine Sim.bnd (sim_sliceBounds _ _ _ (hl.mono h1.le) (hh.mono h1.le) (hm.mono h1.le)) ?_
   rintro R2 h2 ⟨l,h,m⟩ _ rfl
   refine Sim.bnd (sim_sizeOf elem) ?_
   rintro R3 h3 sz _ rfl
   refine Sim.ret (.slice ?_)
   split
   ·exact (ho.mono h2.le).mono h3.le
   ·exact ((ho.mono h2.le).mono h3.le).map _
  | _ => exact .inl never_stuck
 | pointer arr =>
  refine Sim.bnd (sim_asAddr hv) ?_
  intro R2 h2 a a' ha
  refine Sim.bnd (sim_underlying arr) ?_
  rintro R3 h3 d _ ⟨rfl,hd⟩
  cases d with
  | array n elem =>
   refine Sim.bnd (sim_sliceBounds _ _ _ (((hl.mono h1.le).mono h2.le).mono h3.le) (((hh.mono h1.le).mono h2.le).mono h3.le) (((hm.mono h1.le).mono h2.le).mono h3.le)) ?_
   rintro R4 h4 ⟨l,h,m⟩ _ rfl
   refine Sim.bnd (sim_sizeOf elem) ?_
   rintro R5 h5 sz _ rfl
   refine Sim.ret (.slice (.some ?_))
   have ha':=((ha.mono h3.le).mono h4.le).mono h5.le
   split
   ·exact ha'
   ·exact ha'.add _
  | _ => exact .inl never_stuck
 | _ => exact .inl never_stuck
theorem sim_sliceAt (t : TypeId) {v v' : Value} {lo lo' hi hi' mx mx' : Option Value} (h : VR S K R v v') (hl : OvR S K R lo lo') (hh : OvR S K R hi hi') (hm : OvR S K R mx mx') :
  Sim P S K (VA S K) (Instr.sliceAt t v lo hi mx) R (Instr.sliceAt t v' lo' hi' mx'):=by
 unfold Instr.sliceAt
 refine Sim.bnd (sim_underlying t) ?_
 rintro R1 h1 d _ ⟨rfl,hd⟩
 cases d with
 | array n elem =>
  refine Sim.bnd (sim_sureAddr (h.mono h1.le)) ?_
  intro R2 h2 a a' ha
  refine Sim.bnd (sim_sliceBounds _ _ _ ((hl.mono h1.le).mono h2.le) ((hh.mono h1.le).mono h2.le) ((hm.mono h1.le).mono h2.le)) ?_
  rintro R4 h4 ⟨l,h,m⟩ _ rfl
  refine Sim.bnd (sim_sizeOf elem) ?_
  rintro R5 h5 sz _ rfl
  refine Sim.ret (.slice (.some ?_))
  have ha':=(ha.mono h4.le).mono h5.le
  split
  ·exact ha'
  ·exact ha'.add _
 | _ => exact sim_slice t (h.mono h1.le) (hl.mono h1.le) (hh.mono h1.le) (hm.mono h1.le)
theorem sim_extract {v v' : Value} (h : VR S K R v v') (i : Nat) : Sim P S K (VA S K) (Instr.extract v i) R (Instr.extract v' i):=by
 unfold Instr.extract
 cases h with
 | tuple e hc =>
  rename_i xs xs'
  simp only
  cases hq : xs[i]? with
  | none => exact .inl never_stuck
  | some u =>
   obtain ⟨u',hu',huu⟩:=ArR.get ⟨e,hc⟩ hq
   rw [hu']
   exact Sim.ret huu
 | _ => exact .inl never_stuck
theorem sim_makeMap (t : TypeId) {r r' : Option Value} (h : OvR S K R r r') : Sim P S K (VA S K) (Instr.makeMap t r) R (Instr.makeMap t r'):=by
 have fin : ∀ {R1 : Pr},Sim P S K (VA S K) (do pure (.map (some (<- newObj (.map #[] 0))))) R1 (do pure (.map (some (<- newObj (.map #[] 0))))):=by
  intro R1
  refine Sim.bnd (sim_newObj (.map ⟨rfl,λ i e e' h => by simp at h⟩)) ?_
  intro R2 h2 n n' hn
  exact Sim.ret (.map (.some hn))
 unfold Instr.makeMap
 cases h with
 | none => exact fin
 | some x =>
  refine Sim.bnd (sim_underlying t) ?_
  rintro R1 h1 d _ ⟨rfl,hd⟩
  cases d with
  | map k e =>
   refine Sim.bnd (sim_asInt (x.mono h1.le)) ?_
   rintro R2 h2 n _ rfl
   exact fin
  | _ => exact .inl (never_stuck.bnd _)
theorem sim_makeChan (t : TypeId) {v v' : Value} (h : VR S K R v v') : Sim P S K (VA S K) (Instr.makeChan t v) R (Instr.makeChan t v'):=by
 unfold Instr.makeChan
 refine Sim.bnd (sim_asInt h) ?_
 rintro R1 h1 n _ rfl
 refine Sim.bnd (sim_underlying t) ?_
 rintro R2 h2 d _ ⟨rfl,hd⟩
 cases d with
 | chan dir elem =>
  refine Sim.bnd (sim_typeInfo elem) ?_
  rintro R3 h3 inf _ ⟨rfl,hi⟩
  simp only
  split
  ·exact .inl (never_runtimePanic.bnd _)
  ·refine Sim.bnd (sim_newObj (.chan ArR.empty)) ?_
   intro R4 h4 n n' hn
   exact Sim.ret (.chan (.some (.inl hn)))
 | _ => exact .inl never_stuck
end
end Go.Tt
namespace Go.Tt
section
variable {P : Pair} {S : FuncId -> Prop} {K : Pr} {α β γ δ : Type} {R : Pr}
theorem OnR.eq_iff {R : Pr} (inj : ∀ a b c,R a b -> R a c -> b = c) (inj' : ∀ a b c,R a c -> R b c -> a = b) {a a' b b' : Option Nat} (h : OnR R a a') (h' : OnR R b b') : (a == b) = (a' == b'):=by
 cases h with
 | none => cases h' with
  | none => rfl
  | some y => rfl
 | some x => cases h' with
  | none => rfl
  | some y =>
   rename_i p p' q q'
   rw [Bool.eq_iff_iff]
   simp only [beq_iff_eq,Option.some.injEq]
   exact ⟨λ e => inj _ _ _ (e ▸ x) y,λ e => inj' _ _ _ (e ▸ x) y⟩
theorem sim_numberAt {r r' : Nat} (h : R r r') : Sim P S K (λ R a b => (a = none /\ b = none) \/ ∃ x x' l,a = some (x,l) /\ b = some (x',l) /\ AdR R x x') (numberAt r) R (numberAt r'):=by
 unfold numberAt
 refine Sim.bnd (sim_shape h) ?_
 rintro R1 h1 x _ rfl
 cases x with
 | some x => exact Sim.ret (.inl ⟨rfl,rfl⟩)
 | none =>
  refine Sim.bnd (sim_getObj (h1.le _ _ h)) ?_
  intro R2 h2 o o' ho
  cases ho with
  | number ha => exact Sim.ret (.inr ⟨_,_,_,rfl,rfl,ha⟩)
  | _ => exact Sim.ret (.inl ⟨rfl,rfl⟩)
theorem sim_behindNumber {a a' : Addr} (h : AdR R a a') : Sim P S K (λ R x y => AdR R x.1 y.1) (behindNumber a) R (behindNumber a'):=by
 have h0:=h
 cases h with
 | mk h =>
  unfold behindNumber
  refine Sim.bnd (sim_numberAt h) ?_
  rintro R1 h1 x y (⟨rfl,rfl⟩ | ⟨p,p',l,rfl,rfl,hp⟩)
  ·exact Sim.ret (h0.mono h1.le)
  ·exact Sim.ret hp
def eqOk : TypeDesc -> Bool
 | .bool | .int _ | .string | .chan .. | .slice _ | .map .. => true
 | _ => false
theorem AdR.block_eq (hR : RelOk P K R) {a a' b b' : Addr} (h : AdR R a a') (h' : AdR R b b') : (a.block == b.block) = (a'.block == b'.block):=by
 cases h with
 | mk x =>
  cases h' with
  | mk y =>
   rw [Bool.eq_iff_iff]
   simp only [beq_iff_eq]
   exact ⟨λ e => hR.inj _ _ _ (.inl (e ▸ x)) (.inl y),λ e => hR.inj' _ _ _ (.inl (e ▸ x)) (.inl y)⟩
theorem sim_shapeS {r r' : Nat} (h : R r r') : Sim P S K (λ R' a b => R' = R /\ a = b) (shape r) R (shape r'):=.inr ⟨r',_,rfl,h,λ x => .inr ⟨x,rfl,rfl,rfl⟩⟩
theorem sim_getObjS {r r' : Nat} (h : R r r') : Sim P S K (λ R' o o' => R' = R /\ ObR S K R o o') (getObj r) R (getObj r'):=.inr ⟨r',_,rfl,.inl h,λ o o' ho => .inr ⟨o',rfl,rfl,ho⟩⟩
theorem sim_programS : Sim P S K (λ R' a b => R' = R /\ a = P.g /\ b = P.c) program R program:=.inr ⟨_,rfl,.inr ⟨P.c,rfl,rfl,rfl,rfl⟩⟩
theorem sim_numberAtS {r r' : Nat} (h : R r r') : Sim P S K (λ R' a b => R' = R /\ ((a = none /\ b = none) \/ ∃ x x' l,a = some (x,l) /\ b = some (x',l) /\ AdR R x x')) (numberAt r) R (numberAt r'):=by
 unfold numberAt
 refine Sim.bnd (sim_shapeS h) ?_
 rintro R1 _ x _ ⟨rfl,rfl⟩
 cases x with
 | some x => exact Sim.ret ⟨rfl,.inl ⟨rfl,rfl⟩⟩
 | none =>
  refine Sim.bnd (sim_getObjS h) ?_
  rintro R2 _ o o' ⟨rfl,ho⟩
  cases ho with
  | number ha => exact Sim.ret ⟨rfl,.inr ⟨_,_,_,rfl,rfl,ha⟩⟩
  | _ => exact Sim.ret ⟨rfl,.inl ⟨rfl,rfl⟩⟩
theorem sim_behindNumberS {a a' : Addr} (h : AdR R a a') : Sim P S K (λ R' x y => R' = R /\ AdR R x.1 y.1) (behindNumber a) R (behindNumber a'):=by
 have h0:=h
 cases h with
 | mk h =>
  unfold behindNumber
  refine Sim.bnd (sim_numberAtS h) ?_
  rintro R1 _ x y ⟨rfl,⟨rfl,rfl⟩ | ⟨p,p',l,rfl,rfl,hp⟩⟩
  ·exact Sim.ret ⟨rfl,h0⟩
  ·exact Sim.ret ⟨rfl,hp⟩
theorem AdR.low (hR : RelOk P K R) {a a' : Addr} (h : AdR R a a') : decide (a.block < P.globals.size) = decide (a'.block < P.globals.size):=by
 cases h with
 | mk x => exact decide_eq_decide.2 (hR.low _ _ x)
def noCopy (P : Pair) (t : TypeId) : Prop:=∀ i x,P.info? t = some i -> i.desc ≠ .named "sync.copyChecker" x
theorem sim_intPtrs {t : TypeId} (hc : noCopy P t) (hR : RelOk P K R) {a a' b b' : Addr} (ha : AdR R a a') (hb : AdR R b b') :
  Sim P S K EqA (do
   let (a,b):=((<- behindNumber a).1,(<- behindNumber b).1)
   if a.block == b.block && a.block < (<- program).globals.size then return (<- byteOf a) == (<- byteOf b)
   let .named "sync.copyChecker" _:=(<- typeInfo t).desc | unsupported .addressObserved
   if a == b then pure true else unsupported .addressObserved) R (do
   let (a,b):=((<- behindNumber a').1,(<- behindNumber b').1)
   if a.block == b.block && a.block < (<- program).globals.size then return (<- byteOf a) == (<- byteOf b)
   let .named "sync.copyChecker" _:=(<- typeInfo t).desc | unsupported .addressObserved
   if a == b then pure true else unsupported .addressObserved):=by
 refine Sim.bnd (sim_behindNumberS ha) ?_
 rintro R1 _ x y ⟨rfl,hx⟩
 refine Sim.bnd (sim_behindNumberS hb) ?_
 rintro R2 _ u v ⟨rfl,hu⟩
 refine Sim.bnd sim_programS ?_
 rintro R3 _ p q ⟨rfl,rfl,rfl⟩
 rw [<- AdR.block_eq hR hx hu,P.globals_g,<- AdR.low hR hx]
 split
 ·refine Sim.bnd (sim_byteOf hx) ?_
  rintro R4 h4 m _ rfl
  refine Sim.bnd (sim_byteOf (hu.mono h4.le)) ?_
  rintro R5 h5 m' _ rfl
  exact Sim.ret rfl
 ·refine Sim.bnd (sim_typeInfo t) ?_
  rintro R4 h4 i _ ⟨rfl,hi⟩
  refine .inl ?_
  split
  ·next e => exact absurd e (hc i _ hi)
  ·exact never_unsupported
theorem sim_equalIn (n : Nat) (t : TypeId) (d : TypeDesc) (hd : P.underlying t = some d) (ok : eqOk d = true) (hc : ∀ k,d = .int k -> noCopy P t) (hR : RelOk P K R) {x x' y y' : Value} (hx : VR S K R x x') (hy : VR S K R y y') :
  Sim P S K EqA (Op.equalIn (n + 1) t x y) R (Op.equalIn (n + 1) t x' y'):=by
 unfold Op.equalIn
 refine Sim.bnd (A:=λ R' a b => R' = R /\ a = b /\ P.underlying t = some a) (by
  unfold underlying
  refine Sim.bnd sim_programS ?_
  rintro R' _ a b ⟨rfl,ha,hb⟩
  rw [ha,hb,P.underlying_g]
  cases h : P.c.underlying t with
  | some d => exact Sim.ret ⟨rfl,rfl,h⟩
  | none => exact .inl never_stuck) ?_
 rintro R1 _ d' _ ⟨rfl,rfl,hd'⟩
 obtain rfl : d' = d:=by rw [hd] at hd'; injection hd' with e; exact e.symm
 cases d' with
 | bool =>
  cases hx with
  | bool a => cases hy with
   | bool b => exact Sim.ret rfl
   | _ => exact .inl never_stuck
  | _ => first | exact .inl never_stuck | (cases hy <;> exact .inl never_stuck)
 | string =>
  cases hx with
  | string a => cases hy with
   | string b => exact Sim.ret rfl
   | _ => exact .inl never_stuck
  | _ => first | exact .inl never_stuck | (cases hy <;> exact .inl never_stuck)
 | chan dir el =>
  cases hx with
  | chan a => cases hy with
   | chan b => exact Sim.ret (OnR.eq_iff hR.inj hR.inj' a b)
   | _ => exact .inl never_stuck
  | _ => first | exact .inl never_stuck | (cases hy <;> exact .inl never_stuck)
 | int ik =>
  cases hx with
  | int k a => cases hy with
   | int k' b =>
    simp only
    split
    ·exact Sim.ret rfl
    ·exact .inl never_stuck
   | pointer q =>
    cases q with
    | none => exact .inl (by first | exact never_unsupported | exact never_stuck)
    | some q =>
     by_cases h0 : a = 0
     ·subst h0; exact Sim.ret rfl
     ·refine .inl ?_
      split <;> first | exact never_unsupported | exact never_stuck | (exfalso; simp_all; done)
   | _ => exact .inl (by first | exact never_stuck | exact never_unsupported)
  | pointer p => cases p with
   | none => cases hy <;> first | exact .inl never_unsupported | exact .inl never_stuck
   | some p =>
    cases hy with
    | int k' b =>
     by_cases h0 : b = 0
     ·subst h0; exact Sim.ret rfl
     ·refine .inl ?_
      split <;> first | exact never_unsupported | exact never_stuck | (exfalso; simp_all; done)
    | pointer q =>
     cases q with
     | none => exact .inl (by first | exact never_unsupported | exact never_stuck)
     | some q => exact sim_intPtrs (hc ik rfl) hR p q
    | _ => exact .inl (by first | exact never_unsupported | exact never_stuck)
  | _ => cases hy <;> first | exact .inl never_stuck | exact .inl never_unsupported
 | slice el =>
  cases hx with
  | slice a => cases hy with
   | slice b => cases a <;> cases b <;> first | exact Sim.ret rfl | exact .inl never_stuck
   | _ => cases a <;> exact .inl never_stuck
  | _ => first | exact .inl never_stuck | (cases hy <;> exact .inl never_stuck)
 | map kt el =>
  cases hx with
  | map a => cases hy with
   | map b => cases a <;> cases b <;> first | exact Sim.ret rfl | exact .inl never_stuck
   | _ => cases a <;> exact .inl never_stuck
  | _ => first | exact .inl never_stuck | (cases hy <;> exact .inl never_stuck)
 | _ => cases ok
end
end Go.Tt
namespace Go.Tt
section
variable {P : Pair} {S : FuncId -> Prop} {K : Pr} {α β γ δ : Type} {R : Pr}
def ElsR (S : FuncId -> Prop) (K R : Pr) (es es' : List MapEntry) : Prop:=es.length = es'.length /\ ∀ (i : Nat) (e e' : MapEntry),es[i]? = some e -> es'[i]? = some e' -> EntR S K R e e'
theorem EnsR.toList {es es' : Array MapEntry} (h : EnsR S K R es es') : ElsR S K R es.toList es'.toList:=⟨by simpa using h.1,λ i e e' h1 h2 => h.2 i e e' (by simpa using h1) (by simpa using h2)⟩
theorem ElsR.cons {e e' : MapEntry} {es es' : List MapEntry} (h : ElsR S K R (e :: es) (e' :: es')) : EntR S K R e e' /\ ElsR S K R es es':=
 ⟨h.2 0 e e' rfl rfl,by simpa using h.1,λ i a b h1 h2 => h.2 (i + 1) a b (by simpa using h1) (by simpa using h2)⟩
theorem ElsR.mono {R' : Pr} (hR : R.le R') {es es' : List MapEntry} (h : ElsR S K R es es') : ElsR S K R' es es':=⟨h.1,λ i e e' h1 h2 => (h.2 i e e' h1 h2).mono hR⟩
theorem OaR.eq_iff (hR : RelOk P K R) {a a' b b' : Option Addr} (h : OaR R a a') (h' : OaR R b b') : (a == b) = (a' == b'):=by
 cases h with
 | none => cases h' with
  | none => rfl
  | some y => rfl
 | some x => cases h' with
  | none => rfl
  | some y =>
   cases x with
   | mk x =>
    cases y with
    | mk y =>
     rw [Bool.eq_iff_iff]
     simp only [beq_iff_eq,Option.some.injEq,Addr.mk.injEq]
     exact ⟨λ e => ⟨hR.inj _ _ _ (.inl (e.1 ▸ x)) (.inl y),e.2⟩,λ e => ⟨hR.inj' _ _ _ (.inl (e.1 ▸ x)) (.inl y),e.2⟩⟩
def Flat : Value -> Prop
 | .tuple _ | .agg _ | .iface _ _ | .nilFunc => False
 | _ => True
theorem sameBits_eq (hR : RelOk P K R) (n : Nat) {x x' y y' : Value} (fx : Flat x) (fy : Flat y) (hx : VR S K R x x') (hy : VR S K R y y') : Instr.sameBits n x y = Instr.sameBits n x' y':=by
 cases n <;> (
  cases hx with
  | pointer h1 => cases hy with
   | pointer h2 => exact OaR.eq_iff hR h1 h2
   | junk h => exact fy.elim
   | _ => rfl
  | chan h1 => cases hy with
   | chan h2 => exact OnR.eq_iff hR.inj hR.inj' h1 h2
   | junk h => exact fy.elim
   | _ => rfl
  | junk h => exact fx.elim
  | iface h1 => exact fx.elim
  | agg h1 => exact fx.elim
  | tuple h1 => exact fx.elim
  | _ => cases hy <;> first | rfl | exact fy.elim)
theorem never_equal {t : TypeId} {d : TypeDesc} (hd : P.underlying t = some d) (ok : eqOk d = true) {x y : Value} (h : ¬ (Flat x /\ Flat y)) : Never P (Op.equal t x y):=by
 have e : Op.equal t x y = Op.equalIn (9999 + 1) t x y:=rfl
 rw [e]
 unfold Op.equalIn
 have hu : ∀ w,(underlying t).run P.g w = .ok d w:=λ w => by
  have : P.g.underlying t = some d:=hd
  simp [underlying,program,Sem.run,bind,Sem.bind,pure,this]
 have key : ∀ {f : TypeDesc -> Sem Bool},Never P (f d) -> Never P (underlying t >>= f):=λ {f} hf w hw => by
  obtain ⟨h1,w1,h2,h3⟩:=hf w hw
  refine ⟨h1,w1,?_,h3⟩
  have:=Sem.run_bind' P.g (underlying t) f w
  rw [hu] at this
  exact this.trans h2
 refine key ?_
 cases d <;> first | (cases ok; done) | skip
 all_goals (cases x <;> cases y <;> first
  | exact (h ⟨True.intro,True.intro⟩).elim
  | exact never_stuck
  | exact never_unsupported
  | (split <;> first | exact never_stuck | exact never_unsupported | (simp_all; done)))
theorem sameNow_flat {d : TypeDesc} {x y : Value} {b : Bool} (h : Instr.sameNow d x y = some b) : Flat x /\ Flat y:=by
 cases x <;> cases d <;> first | (simp [Instr.sameNow] at h; done) | (cases y <;> first | exact ⟨trivial,trivial⟩ | (simp [Instr.sameNow] at h; done))
theorem sameNow_eq (d : TypeDesc) {k k' e e' : Value} (f1 : Flat k) (f2 : Flat e) (hk : VR S K R k k') (he : VR S K R e e') : Instr.sameNow d k e = Instr.sameNow d k' e':=by
 cases hk with
 | junk _ => exact f1.elim
 | int i n => cases he with
  | int i n => rfl
  | junk _ => exact f2.elim
  | _ => cases d <;> rfl
 | string s => cases he with
  | string s => rfl
  | junk _ => exact f2.elim
  | _ => cases d <;> rfl
 | bool s => cases he with
  | bool s => rfl
  | junk _ => exact f2.elim
  | _ => cases d <;> rfl
 | _ => cases d <;> rfl
inductive OfR (S : FuncId -> Prop) (K R : Pr) (F : Nat -> Prop) : Option (Nat × Value) -> Option (Nat × Value) -> Prop
 | none : OfR S K R F none none
 | some {i : Nat} {v v' : Value} : VR S K R v v' -> F i -> OfR S K R F (some (i,v)) (some (i,v'))
structure KeyOk (P : Pair) (t : TypeId) : Prop where
 ex : ∃ d,P.underlying t = some d /\ eqOk d = true
 nc : ∀ k,P.underlying t = some (.int k) -> noCopy P t
theorem sim_equal {t : TypeId} (ht : KeyOk P t) (hR : RelOk P K R) {x x' y y' : Value} (hx : VR S K R x x') (hy : VR S K R y y') : Sim P S K EqA (Op.equal t x y) R (Op.equal t x' y'):=by
 obtain ⟨d,hd,ok⟩:=ht.ex
 have e : ∀ a b,Op.equal t a b = Op.equalIn (9999 + 1) t a b:=λ a b => rfl
 rw [e,e]
 exact sim_equalIn 9999 t d hd ok (λ k e => ht.nc k (e ▸ hd)) hR hx hy
theorem equal_false {t : TypeId} {d : TypeDesc} (hd : P.underlying t = some d) {x y : Value} (h : Instr.sameNow d x y = some false) (w : World) : (Op.equal t x y).run P.g w = .ok false w:=by
 have e : Op.equal t x y = Op.equalIn (9999 + 1) t x y:=rfl
 have hg : P.g.underlying t = some d:=hd
 have hu : (underlying t).run P.g w = .ok d w:=by simp [underlying,program,Sem.run,bind,Sem.bind,pure,hg]
 rw [e]
 unfold Op.equalIn
 refine (Sem.run_bind' P.g (underlying t) _ w).trans ?_
 rw [hu]
 cases x with
 | bool a =>
  cases d with
  | bool =>
   cases y with
   | bool b =>
    have h' : (a == b) = false:=by simpa [Instr.sameNow] using h
    show Sem.run P.g (pure (a == b)) w = _
    rw [h']; rfl
   | _ => simp [Instr.sameNow] at h
  | _ => simp [Instr.sameNow] at h
 | string a =>
  cases d with
  | string =>
   cases y with
   | string b =>
    have h' : (a == b) = false:=by simpa [Instr.sameNow] using h
    show Sem.run P.g (pure (a == b)) w = _
    rw [h']; rfl
   | _ => simp [Instr.sameNow] at h
  | _ => simp [Instr.sameNow] at h
 | int k a =>
  cases d with
  | int dk =>
   cases y with
   | int k' b =>
    simp only [Instr.sameNow] at h
    split at h
    ·next hk =>
     have h' : (a == b) = false:=by simpa using h
     show Sem.run P.g (if k = k' then pure (a == b) else stuck "==: kinds differ") w = _
     rw [if_pos hk,h']; rfl
    ·cases h
   | _ => simp [Instr.sameNow] at h
  | _ => simp [Instr.sameNow] at h
 | _ => cases d <;> simp [Instr.sameNow] at h
theorem findNow_eq {t : TypeId} {d : TypeDesc} (hd : P.underlying t = some d) (ok : eqOk d = true) {k k' : Value} (hk : VR S K R k k') {F : Nat -> Prop} : ∀ (es es' : List MapEntry) (i : Nat),ElsR S K R es es' -> (∀ j e,es[j]? = some e -> Flat k -> Flat e.key -> F (i + j)) ->
  (Instr.findNow d k es i = none /\ Never P (Instr.findAsking t k es i)) \/ (Instr.findNow d k es i = none /\ Instr.findNow d k' es' i = none) \/ ∃ r r',Instr.findNow d k es i = some r /\ Instr.findNow d k' es' i = some r' /\ OfR S K R F r r'
 | [],[],i,h,_ => .inr (.inr ⟨_,_,rfl,rfl,.none⟩)
 | [],_ :: _,i,h,_ => by have:=h.1; simp at this
 | _ :: _,[],i,h,_ => by have:=h.1; simp at this
 | e :: es,e' :: es',i,h,hF => by
  obtain ⟨h1,h2⟩:=h.cons
  cases h1 with
  | mk hk2 hv =>
   rename_i ek ek' ev ev' born
   by_cases hf : Flat k /\ Flat ek
   ·unfold Instr.findNow
    simp only [<- sameNow_eq d hf.1 hf.2 hk hk2]
    cases hs : Instr.sameNow d k ek with
    | none => exact .inr (.inl ⟨rfl,rfl⟩)
    | some b => cases b with
     | true => exact .inr (.inr ⟨_,_,rfl,rfl,.some hv (by simpa using hF 0 _ rfl hf.1 hf.2)⟩)
     | false =>
      rcases findNow_eq hd ok hk es es' (i + 1) h2 (λ j e he a b => by have:=hF (j + 1) e (by simpa using he) a b; rwa [show i + 1 + j = i + (j + 1) by omega]) with ⟨hq,hn⟩ | hr
      ·refine .inl ⟨hq,λ w hw => ?_⟩
       obtain ⟨hh,w1,q1,q2⟩:=hn w hw
       refine ⟨hh,w1,?_,q2⟩
       unfold Instr.findAsking
       refine (Sem.run_bind' P.g _ _ w).trans ?_
       rw [equal_false hd hs w]
       exact q1
      ·exact .inr hr
   ·refine .inl ⟨?_,?_⟩
    ·unfold Instr.findNow
     cases hs : Instr.sameNow d k ek with
     | none => rfl
     | some b => exact absurd (sameNow_flat hs) hf
    ·unfold Instr.findAsking
     exact (never_equal hd ok hf).bnd _
theorem sim_findAsking {t : TypeId} (ht : KeyOk P t) : ∀ (es es' : List MapEntry) (i : Nat) {R : Pr} {k k' : Value} {F : Nat -> Prop},RelOk P K R -> VR S K R k k' -> ElsR S K R es es' -> (∀ j e,es[j]? = some e -> Flat k -> Flat e.key -> F (i + j)) ->
  Sim P S K (λ R' a b => OfR S K R' F a b) (Instr.findAsking t k es i) R (Instr.findAsking t k' es' i)
 | [],[],i,R,k,k',F,hR,hk,h,hF => Sim.ret .none
 | [],_ :: _,i,R,k,k',F,hR,hk,h,hF => by have:=h.1; simp at this
 | _ :: _,[],i,R,k,k',F,hR,hk,h,hF => by have:=h.1; simp at this
 | e :: es,e' :: es',i,R,k,k',F,hR,hk,h,hF => by
  obtain ⟨h1,h2⟩:=h.cons
  cases h1 with
  | mk hk2 hv =>
   rename_i ek ek' ev ev' born
   by_cases hf : Flat k /\ Flat ek
   rotate_left
   ·obtain ⟨d,hd,ok⟩:=ht.ex
    refine .inl ?_
    unfold Instr.findAsking
    exact (never_equal hd ok hf).bnd _
   unfold Instr.findAsking
   refine Sim.bnd (sim_equal ht hR hk hk2) ?_
   rintro R1 hx b _ rfl
   cases b with
   | true => exact Sim.ret (.some (hv.mono hx.le) (by simpa using hF 0 _ rfl hf.1 hf.2))
   | false => exact sim_findAsking ht es es' (i + 1) (hx.ok hR) (hk.mono hx.le) (h2.mono hx.le) (λ j e he a b => by have:=hF (j + 1) e (by simpa using he) a b; rwa [show i + 1 + j = i + (j + 1) by omega])
theorem EnsR.get {es es' : Array MapEntry} (h : EnsR S K R es es') {i : Nat} {e : MapEntry} (hi : es[i]? = some e) : ∃ e',es'[i]? = some e' /\ EntR S K R e e':=by
 have : i < es'.size:=by rw [<- h.1]; exact (Array.getElem?_eq_some_iff.1 hi).1
 exact ⟨_,Array.getElem?_eq_getElem this,h.2 i e _ hi (Array.getElem?_eq_getElem this)⟩
theorem EnsR.none {es es' : Array MapEntry} (h : EnsR S K R es es') {i : Nat} (hi : es[i]? = none) : es'[i]? = none:=by
 rw [Array.getElem?_eq_none_iff] at hi ⊢; rw [<- h.1]; exact hi
theorem EnsR.modify {es es' : Array MapEntry} (h : EnsR S K R es es') (i : Nat) {f f' : MapEntry -> MapEntry} (hf : ∀ e e',EntR S K R e e' -> EntR S K R (f e) (f' e')) : EnsR S K R (es.modify i f) (es'.modify i f'):=by
 refine ⟨by simpa using h.1,λ k e e' h1 h2 => ?_⟩
 rw [Array.getElem?_modify] at h1 h2
 split at h1
 ·next e1 =>
  rw [if_pos e1] at h2
  cases q : es[k]? with
  | none => rw [q] at h1; cases h1
  | some u =>
   obtain ⟨u',q',r⟩:=h.get q
   rw [q] at h1; rw [q'] at h2
   cases h1; cases h2
   exact hf _ _ r
 ·next e1 =>
  rw [if_neg e1] at h2
  exact h.2 k e e' h1 h2
theorem EnsR.push {es es' : Array MapEntry} (h : EnsR S K R es es') {e e' : MapEntry} (he : EntR S K R e e') : EnsR S K R (es.push e) (es'.push e'):=by
 refine ⟨by simpa using h.1,λ k a a' h1 h2 => ?_⟩
 rw [Array.getElem?_push] at h1 h2
 rw [<- h.1] at h2
 split at h1
 ·next e1 =>
  rw [if_pos e1] at h2
  cases h1; cases h2; exact he
 ·next e1 =>
  rw [if_neg e1] at h2
  exact h.2 k a a' h1 h2
theorem EnsR.erase {es es' : Array MapEntry} (h : EnsR S K R es es') (i : Nat) : EnsR S K R (es.eraseIdxIfInBounds i) (es'.eraseIdxIfInBounds i):=by
 unfold Array.eraseIdxIfInBounds
 split
 ·next hi =>
  have hi' : i < es'.size:=h.1 ▸ hi
  rw [dif_pos hi']
  refine ⟨by simp [h.1],λ k a a' h1 h2 => ?_⟩
  rw [Array.getElem?_eraseIdx] at h1 h2
  split at h1
  ·next e1 => rw [if_pos e1] at h2; exact h.2 _ _ _ h1 h2
  ·next e1 => rw [if_neg e1] at h2; exact h.2 _ _ _ h1 h2
 ·next hi =>
  have hi' : ¬ i < es'.size:=h.1 ▸ hi
  rw [dif_neg hi']
  exact h
theorem sim_findKey {t : TypeId} (ht : KeyOk P t) (hR : RelOk P K R) {k k' : Value} (hk : VR S K R k k') {es es' : List MapEntry} (he : ElsR S K R es es') :
  Sim P S K (λ R' a b => OfR S K R' (λ i => Flat k /\ ∀ e,es[i]? = some e -> Flat e.key) a b) (Instr.findKey t k es) R (Instr.findKey t k' es'):=by
 unfold Instr.findKey
 refine Sim.bnd (sim_underlying t) ?_
 rintro R1 h1 d _ ⟨rfl,hd⟩
 obtain ⟨d',hd',ok⟩:=ht.ex
 obtain rfl : d' = d:=by rw [hd] at hd'; injection hd' with e; exact e.symm
 have hF : ∀ j e,es[j]? = some e -> Flat k -> Flat e.key -> Flat k /\ ∀ e,es[0 + j]? = some e -> Flat e.key:=λ j e he a b => ⟨a,λ e2 he2 => by rw [Nat.zero_add,he] at he2; injection he2 with he2; exact he2 ▸ b⟩
 rcases findNow_eq (F:=λ i => Flat k /\ ∀ e,es[i]? = some e -> Flat e.key) hd ok (hk.mono h1.le) es es' 0 (he.mono h1.le) hF with ⟨e1,hn⟩ | ⟨e1,e2⟩ | ⟨r,r',e1,e2,h⟩
 ·rw [e1]
  exact .inl hn
 ·rw [e1,e2]
  exact sim_findAsking ht es es' 0 (h1.ok hR) (hk.mono h1.le) (he.mono h1.le) hF
 ·rw [e1,e2]
  exact Sim.ret h
theorem sim_checkKeyN (n : Nat) {t : TypeId} (ht : KeyOk P t) (b : Bool) (k k' : Value) : Sim P S K EqA (Instr.checkKey b (n + 1) t k) R (Instr.checkKey b (n + 1) t k'):=by
 obtain ⟨d,hd,ok⟩:=ht.ex
 unfold Instr.checkKey
 refine Sim.bnd (sim_underlying t) ?_
 rintro R1 h1 d' _ ⟨rfl,hd'⟩
 obtain rfl : d' = d:=by rw [hd] at hd'; injection hd' with e; exact e.symm
 cases d' with
 | interface _ => cases ok
 | array _ _ => cases ok
 | struct _ => cases ok
 | _ => exact Sim.ret rfl
theorem sim_checkKey {t : TypeId} (ht : KeyOk P t) (b : Bool) (k k' : Value) : Sim P S K EqA (Instr.checkKey b 10000 t k) R (Instr.checkKey b 10000 t k'):=sim_checkKeyN 9999 ht b k k'
theorem sim_keyThatStays (hR : RelOk P K R) {a a' b b' : Value} (fa : Flat a) (fb : Flat b) (ha : VR S K R a a') (hb : VR S K R b b') : Sim P S K (VA S K) (Instr.keyThatStays a b) R (Instr.keyThatStays a' b'):=by
 unfold Instr.keyThatStays
 rw [sameBits_eq hR 10000 fa fb ha hb]
 split
 ·exact Sim.ret hb
 ·refine Sim.bnd (sim_choose _) ?_
  rintro R1 h1 n _ rfl
  refine Sim.ret ?_
  split
  ·exact hb.mono h1.le
  ·exact ha.mono h1.le
theorem EnsR.keyD {es es' : Array MapEntry} (h : EnsR S K R es es') (i : Nat) {k k' : Value} (hk : VR S K R k k') : VR S K R (((es[i]?).map (·.key)).getD k) (((es'[i]?).map (·.key)).getD k'):=by
 cases q : es[i]? with
 | none => rw [h.none q]; exact hk
 | some e =>
  obtain ⟨e',q',r⟩:=h.get q
  rw [q']
  cases r with
  | mk a b => exact a
theorem flat_keyD {es : Array MapEntry} {k : Value} {i : Nat} (h : Flat k /\ ∀ e,es.toList[i]? = some e -> Flat e.key) : Flat (((es[i]?).map (·.key)).getD k):=by
 cases q : es[i]? with
 | none => exact h.1
 | some e => exact h.2 e (by simpa using q)
theorem EnsR.isEmpty {es es' : Array MapEntry} (h : EnsR S K R es es') : es.isEmpty = es'.isEmpty:=by simp [Array.isEmpty,h.1]
theorem sim_lookup (hz : ZeroOk P S) {t : TypeId} (ht : ∀ k e,P.underlying t = some (.map k e) -> KeyOk P k) (hR : RelOk P K R) {x x' k k' : Value} (hx : VR S K R x x') (hk : VR S K R k k') (c : Bool) :
  Sim P S K (VA S K) (Instr.lookup t x k c) R (Instr.lookup t x' k' c):=by
 unfold Instr.lookup
 refine Sim.bnd (sim_underlying t) ?_
 rintro R1 h1 d _ ⟨rfl,hd⟩
 cases d with
 | map kt el =>
  have hK:=ht kt el hd
  have tail : ∀ R2,Ext P K R1 R2 -> ∀ es es',EnsR S K R2 es es' -> Sim P S K (VA S K)
    (do
      Instr.checkKey es.isEmpty 10000 kt k
      let r <- Instr.findKey kt k es.toList
      match r with
      | some (_,v) => do let x <- pure (v,true); pure (if c = true then Value.tuple #[x.fst,.bool x.snd] else x.fst)
      | none => do let z <- zeroValue el; let x <- pure (z,false); pure (if c = true then Value.tuple #[x.fst,.bool x.snd] else x.fst)) R2
    (do
      Instr.checkKey es'.isEmpty 10000 kt k'
      let r <- Instr.findKey kt k' es'.toList
      match r with
      | some (_,v) => do let x <- pure (v,true); pure (if c = true then Value.tuple #[x.fst,.bool x.snd] else x.fst)
      | none => do let z <- zeroValue el; let x <- pure (z,false); pure (if c = true then Value.tuple #[x.fst,.bool x.snd] else x.fst)):=by
   intro R2 h2 es es' he
   rw [he.isEmpty]
   refine Sim.bnd (sim_checkKey hK _ _ _) ?_
   rintro R3 h3 _ _ rfl
   have hR3:=h3.ok (h2.ok (h1.ok hR))
   have hk3:=((hk.mono h1.le).mono h2.le).mono h3.le
   have fin : ∀ {R5 : Pr} {v v' : Value} {b : Bool},VR S K R5 v v' -> Sim P S K (VA S K) (do let x <- pure (v,b); pure (if c = true then Value.tuple #[x.fst,.bool x.snd] else x.fst)) R5 (do let x <- pure (v',b); pure (if c = true then Value.tuple #[x.fst,.bool x.snd] else x.fst)):=by
    intro R5 v v' b hv
    refine Sim.bnd (Sim.ret (A:=λ R (a b : Value × Bool) => VR S K R a.1 b.1 /\ a.2 = b.2) ⟨hv,rfl⟩) ?_
    rintro R5 h5 ⟨v,b⟩ ⟨v',b'⟩ ⟨hv,e⟩
    cases e
    cases c with
    | true => exact Sim.ret (VR.tuple' ((ArR.empty.push hv).push (.bool b)))
    | false => exact Sim.ret hv
   refine Sim.bnd (sim_findKey hK hR3 hk3 (he.mono h3.le).toList) ?_
   intro R4 h4 r r' hr
   cases hr with
   | some hv => exact fin hv
   | none =>
    refine Sim.bnd (sim_zeroValue hz el) ?_
    intro R5 h5 z z' hzz
    exact fin hzz
  cases hx with
  | map h =>
   cases h with
   | none => exact Sim.bnd (Sim.ret (A:=λ R a b => EnsR S K R a b) ⟨rfl,λ i e e' h => by simp at h⟩) tail
   | some h =>
    refine Sim.bnd (sim_getObj (h1.le _ _ h)) ?_
    intro R2 h2 o o' ho
    cases ho with
    | map he => exact Sim.bnd (Sim.ret (A:=λ R a b => EnsR S K R a b) he) (λ R3 h3 es es' he => tail R3 (h2.trans h3) es es' he)
    | _ => exact .inl (never_stuck.bnd _)
  | _ => exact .inl (never_stuck.bnd _)
 | _ => exact .inl never_stuck
theorem sim_mapUpdate {t : TypeId} (ht : ∀ k e,P.underlying t = some (.map k e) -> KeyOk P k) (hR : RelOk P K R) {x x' k k' v v' : Value} (hx : VR S K R x x') (hk : VR S K R k k') (hv : VR S K R v v') :
  Sim P S K EqA (Instr.mapUpdate t x k v) R (Instr.mapUpdate t x' k' v'):=by
 unfold Instr.mapUpdate
 refine Sim.bnd (sim_underlying t) ?_
 rintro R1 h1 d _ ⟨rfl,hd⟩
 cases d with
 | map kt el =>
  have hK:=ht kt el hd
  cases hx with
  | map h =>
   cases h with
   | none => exact .inl never_runtimePanic
   | some h =>
    refine Sim.bnd (sim_getObj (h1.le _ _ h)) ?_
    intro R2 h2 o o' ho
    cases ho with
    | map he =>
     rename_i cl
     refine Sim.bnd (sim_checkKey hK _ _ _) ?_
     rintro R3 h3 _ _ rfl
     have hR3:=h3.ok (h2.ok (h1.ok hR))
     have hk3:=((hk.mono h1.le).mono h2.le).mono h3.le
     have hr3:=h3.le _ _ (h2.le _ _ (h1.le _ _ h))
     have hv3:=((hv.mono h1.le).mono h2.le).mono h3.le
     refine Sim.bnd (sim_findKey hK hR3 hk3 (he.mono h3.le).toList) ?_
     intro R4 h4 r r' hr
     cases hr with
     | some hq hfl =>
      refine Sim.bnd (sim_keyThatStays (h4.ok hR3) (flat_keyD hfl) hfl.1 (((he.mono h3.le).mono h4.le).keyD _ (hk3.mono h4.le)) (hk3.mono h4.le)) ?_
      intro R5 h5 kk kk' hkk
      refine sim_setObj (h5.le _ _ (h4.le _ _ hr3)) (.map (EnsR.modify (((he.mono h3.le).mono h4.le).mono h5.le) _ ?_))
      intro e e' hee
      cases hee with
      | mk a b => exact .mk hkk ((hv3.mono h4.le).mono h5.le)
     | none => exact sim_setObj (h4.le _ _ hr3) (.map (EnsR.push ((he.mono h3.le).mono h4.le) (.mk (hk3.mono h4.le) (hv3.mono h4.le))))
    | _ => exact .inl never_stuck
  | _ => exact .inl never_stuck
 | _ => exact .inl never_stuck
end
end Go.Tt
namespace Go.Tt
section
variable {P : Pair} {S : FuncId -> Prop} {K : Pr} {α β γ δ : Type} {R : Pr}
theorem ArR.opt {xs xs' : Array Value} (h : ArR S K R xs xs') (i : Nat) : OvR S K R xs[i]? xs'[i]?:=by
 cases q : xs[i]? with
 | none => rw [h.none q]; exact .none
 | some v => obtain ⟨v',q',hv⟩:=h.get q; rw [q']; exact .some hv
theorem sim_len (ts : Array TypeId) (t : TypeId) {xs xs' : Array Value} (h : ArR S K R xs xs') : Sim P S K (VA S K) (Builtin.len_ ts t xs) R (Builtin.len_ ts t xs'):=by
 unfold Builtin.len_
 cases ts[0]? with
 | none => exact .inl never_stuck
 | some t =>
  have ho:=h.opt 0
  generalize xs[0]? = o at ho
  generalize xs'[0]? = o' at ho
  cases ho with
  | none => exact .inl never_stuck
  | some hv =>
   simp only
   refine Sim.bnd (sim_underlying t) ?_
   rintro R1 h1 d _ ⟨rfl,hd⟩
   cases d with
   | string => cases hv with
    | string s => exact Sim.ret (.int _ _)
    | _ => exact .inl never_stuck
   | array n e => exact Sim.ret (.int _ _)
   | pointer arr =>
    refine Sim.bnd (sim_underlying arr) ?_
    rintro R2 h2 d2 _ ⟨rfl,hd2⟩
    cases d2 with
    | array n e => exact Sim.ret (.int _ _)
    | _ => exact .inl never_stuck
   | slice e => cases hv with
    | slice _ => exact Sim.ret (.int _ _)
    | _ => exact .inl never_stuck
   | map k e => cases hv with
    | map hm => cases hm with
     | none => exact Sim.ret (.int _ _)
     | some hm =>
      refine Sim.bnd (sim_getObj (h1.le _ _ hm)) ?_
      intro R2 h2 o o' ho
      cases ho with
      | map he => simp only; rw [he.1]; exact Sim.ret (.int _ _)
      | _ => exact .inl never_stuck
    | _ => exact .inl never_stuck
   | chan k e => cases hv with
    | chan hm => cases hm with
     | none => exact Sim.ret (.int _ _)
     | some hm =>
      refine Sim.bnd (sim_getObjK (hm.imp (h1.le _ _) id)) ?_
      intro R2 h2 o o' ho
      cases ho with
      | chan he => simp only; rw [he.1]; exact Sim.ret (.int _ _)
      | _ => exact .inl never_stuck
    | _ => exact .inl never_stuck
   | _ => exact .inl never_stuck
theorem sim_cap (ts : Array TypeId) (t : TypeId) {xs xs' : Array Value} (h : ArR S K R xs xs') : Sim P S K (VA S K) (Builtin.cap_ ts t xs) R (Builtin.cap_ ts t xs'):=by
 unfold Builtin.cap_
 cases ts[0]? with
 | none => exact .inl never_stuck
 | some t =>
  have ho:=h.opt 0
  generalize xs[0]? = o at ho
  generalize xs'[0]? = o' at ho
  cases ho with
  | none => exact .inl never_stuck
  | some hv =>
   simp only
   refine Sim.bnd (sim_underlying t) ?_
   rintro R1 h1 d _ ⟨rfl,hd⟩
   cases d with
   | array n e => exact Sim.ret (.int _ _)
   | pointer arr =>
    refine Sim.bnd (sim_underlying arr) ?_
    rintro R2 h2 d2 _ ⟨rfl,hd2⟩
    cases d2 with
    | array n e => exact Sim.ret (.int _ _)
    | _ => exact .inl never_stuck
   | slice e => cases hv with
    | slice _ => exact Sim.ret (.int _ _)
    | _ => exact .inl never_stuck
   | chan k e => cases hv with
    | chan hm => cases hm with
     | none => exact Sim.ret (.int _ _)
     | some hm =>
      refine Sim.bnd (sim_getObjK (hm.imp (h1.le _ _) id)) ?_
      intro R2 h2 o o' ho
      cases ho with
      | chan he => exact Sim.ret (.int _ _)
      | _ => exact .inl never_stuck
    | _ => exact .inl never_stuck
   | _ => exact .inl never_stuck
theorem sim_close (ts : Array TypeId) (t : TypeId) {xs xs' : Array Value} (h : ArR S K R xs xs') : Sim P S K (VA S K) (Builtin.close_ ts t xs) R (Builtin.close_ ts t xs'):=by
 have sz : xs.size = xs'.size:=h.1
 obtain ⟨l⟩:=xs
 obtain ⟨l'⟩:=xs'
 match l,l',sz,h with
 | [],[],_,_ => exact .inl never_stuck
 | [x],[x'],_,h =>
  have hx : VR S K R x x':=h.2 0 x x' rfl rfl
  unfold Builtin.close_
  cases hx with
  | chan hc =>
   cases hc with
   | none => exact .inl never_runtimePanic
   | some hc =>
    refine Sim.bnd (sim_getObjK hc) ?_
    intro R2 h2 o o' ho
    cases ho with
    | chan he =>
     simp only
     split
     ·exact .inl (never_runtimePanic.bnd _)
     ·refine Sim.bnd (sim_setObjK (hc.imp (h2.le _ _) id) (.chan he)) ?_
      rintro R3 h3 _ _ rfl
      exact Sim.ret (VR.tuple' ArR.empty)
    | _ => exact .inl never_stuck
  | _ => exact .inl never_stuck
 | x :: y :: l,x' :: y' :: l',_,h => exact .inl never_stuck
theorem sim_delete {ts : Array TypeId} (t : TypeId) (ht : ∀ mt k e,ts[0]? = some mt -> P.underlying mt = some (.map k e) -> KeyOk P k) (hR : RelOk P K R) {xs xs' : Array Value} (h : ArR S K R xs xs') :
  Sim P S K (VA S K) (Builtin.delete_ ts t xs) R (Builtin.delete_ ts t xs'):=by
 unfold Builtin.delete_
 cases e0 : ts[0]? with
 | none => exact .inl never_stuck
 | some mt =>
  have ho:=h.opt 0
  have ho1:=h.opt 1
  generalize xs[0]? = o at ho
  generalize xs'[0]? = o' at ho
  generalize xs[1]? = p at ho1
  generalize xs'[1]? = p' at ho1
  cases ho with
  | none => exact .inl never_stuck
  | some hm =>
   cases ho1 with
   | none => exact .inl never_stuck
   | some hk =>
    simp only
    refine Sim.bnd (sim_underlying mt) ?_
    rintro R1 h1 d _ ⟨rfl,hd⟩
    cases d with
    | map kt el =>
     have hK:=ht mt kt el e0 hd
     have fin : ∀ {R2 : Pr},Sim P S K (VA S K) (pure (.tuple #[])) R2 (pure (.tuple #[])):=Sim.ret (VR.tuple' ArR.empty)
     cases hm with
     | map hm =>
      cases hm with
      | none => exact Sim.bnd (sim_checkKey hK _ _ _) (λ _ _ _ _ _ => fin)
      | some hm =>
       refine Sim.bnd (sim_getObj (h1.le _ _ hm)) ?_
       intro R2 h2 o o' ho
       cases ho with
       | map he =>
        simp only
        rw [he.isEmpty]
        refine Sim.bnd (sim_checkKey hK _ _ _) ?_
        rintro R3 h3 _ _ rfl
        have hR3:=h3.ok (h2.ok (h1.ok hR))
        have hk3:=((hk.mono h1.le).mono h2.le).mono h3.le
        have hr3:=h3.le _ _ (h2.le _ _ (h1.le _ _ hm))
        refine Sim.bnd (sim_findKey hK hR3 hk3 (he.mono h3.le).toList) ?_
        intro R4 h4 r r' hr
        cases hr with
        | some hq => exact Sim.bnd (sim_setObj (h4.le _ _ hr3) (.map (((he.mono h3.le).mono h4.le).erase _))) (λ _ _ _ _ _ => fin)
        | none => exact Sim.bnd (sim_setObj (h4.le _ _ hr3) (.map ((he.mono h3.le).mono h4.le))) (λ _ _ _ _ _ => fin)
       | _ => exact .inl (never_stuck.bnd _)
     | _ => exact .inl (never_stuck.bnd _)
    | _ => exact .inl never_stuck
theorem sim_lenOf {x x' : Value} (h : VR S K R x x') : Sim P S K EqA (Builtin.lenOf x) R (Builtin.lenOf x'):=by
 cases h with
 | slice _ => exact Sim.ret rfl
 | string s => exact Sim.ret rfl
 | _ => exact .inl never_stuck
theorem sim_firstCells (size n : Nat) {x x' : Value} (h : VR S K R x x') : Sim P S K (λ R a b => ArR S K R a b) (Builtin.firstCells size n x) R (Builtin.firstCells size n x'):=by
 cases h with
 | slice ha => cases ha with
  | none => exact Sim.ret ArR.empty
  | some ha => exact sim_loadCells ha _
 | string s =>
  refine Sim.ret ⟨rfl,λ i v v' h1 h2 => ?_⟩
  rw [h1] at h2
  injection h2 with e
  subst e
  rw [Array.getElem?_map] at h1
  cases q : (s.extract 0 n).data[i]? with
  | none => rw [q] at h1; cases h1
  | some b => rw [q] at h1; cases h1; exact .int _ _
 | _ => exact .inl never_stuck
theorem zeroCells_rel {z z' : Array Value} (h : ArR S K R z z') (n : Nat) : ArR S K R (Builtin.zeroCells z n) (Builtin.zeroCells z' n):=by
 refine ⟨by simp [Builtin.zeroCells,h.1],λ i v v' h1 h2 => ?_⟩
 unfold Builtin.zeroCells at h1 h2
 rw [Array.getElem?_map] at h1 h2
 rw [<- h.1] at h2
 cases q : (Array.range (n * z.size))[i]? with
 | none => rw [q] at h1; cases h1
 | some j =>
  rw [q] at h1 h2
  cases h1
  cases h2
  cases q1 : z[j % z.size]? with
  | none =>
   have q2:=h.none q1
   show VR S K R (z[j % z.size]!) (z'[j % z.size]!)
   rw [getElem!_def,getElem!_def,q1,q2]
   exact .bool false
  | some u =>
   obtain ⟨u',q2,hu⟩:=h.get q1
   show VR S K R (z[j % z.size]!) (z'[j % z.size]!)
   rw [getElem!_def,getElem!_def,q1,q2]
   exact hu
theorem sim_zeros {A : Pr -> γ -> δ -> Prop} {F : Bool -> Sem γ} {F' : Bool -> Sem δ} (o : Option TypeId) (hi : ∀ xt d,o = some xt -> P.underlying xt = some d -> ∀ k,d ≠ .int k) (hF : ∀ R3,Ext P K R R3 -> Sim P S K A (F false) R3 (F' false)) :
  Sim P S K A (match (generalizing:=false) o with | some xt => do let l <- underlying xt; let zeros <- pure (match l with | .int k => true | x => false); F zeros | none => do let zeros <- pure false; F zeros) R
   (match (generalizing:=false) o with | some xt => do let l <- underlying xt; let zeros <- pure (match l with | .int k => true | x => false); F' zeros | none => do let zeros <- pure false; F' zeros):=by
 cases o with
 | none =>
  refine Sim.bnd (Sim.ret (A:=λ _ a b => a = false /\ b = false) ⟨rfl,rfl⟩) ?_
  rintro R3 h3 _ _ ⟨rfl,rfl⟩
  exact hF R3 h3
 | some xt =>
  refine Sim.bnd (sim_underlying xt) ?_
  rintro R3 h3 d _ ⟨rfl,hdx⟩
  have e : ∀ d : TypeDesc,(∀ k,d ≠ .int k) -> (match d with | .int k => true | x => false) = false:=by
   intro d h; cases d <;> first | rfl | exact absurd rfl (h _)
  refine Sim.bnd (A:=λ _ a b => a = false /\ b = false) (Sim.ret ⟨e d (hi xt d rfl hdx),e d (hi xt d rfl hdx)⟩) ?_
  rintro R4 h4 _ _ ⟨rfl,rfl⟩
  exact hF R4 (h3.trans h4)
theorem sim_append (hz : ZeroOk P S) {ts : Array TypeId} (t : TypeId) (hi : ∀ xt d,ts[1]? = some xt -> P.underlying xt = some d -> ∀ k,d ≠ .int k) {xs xs' : Array Value} (h : ArR S K R xs xs') :
  Sim P S K (VA S K) (Builtin.append_ ts t xs) R (Builtin.append_ ts t xs'):=by
 unfold Builtin.append_
 cases e0 : ts[0]? with
 | none => exact .inl never_stuck
 | some st =>
  have ho:=h.opt 0
  have ho1:=h.opt 1
  generalize xs[0]? = o at ho
  generalize xs'[0]? = o' at ho
  generalize xs[1]? = p at ho1
  generalize xs'[1]? = p' at ho1
  cases ho with
  | none => exact .inl never_stuck
  | some hs =>
   cases ho1 with
   | none => exact .inl never_stuck
   | some hx =>
    rename_i s s' x x'
    simp only
    refine Sim.bnd (sim_underlying st) ?_
    rintro R1 h1 d _ ⟨rfl,hd⟩
    cases d with
    | slice elem =>
     cases hs with
     | slice hb =>
      rename_i b b' n c
      refine Sim.bnd (sim_sizeOf elem) ?_
      rintro R2 h2 size _ rfl
      have hb2:=(hb.mono h1.le).mono h2.le
      have hx2:=(hx.mono h1.le).mono h2.le
      refine sim_zeros ts[1]? hi ?_
      intro R3 h3
      simp only [Bool.not_false,if_true,Bool.false_eq_true,if_false,false_or]
      refine Sim.bnd (sim_lenOf (hx2.mono h3.le)) ?_
      rintro R4 h4 m _ rfl
      have hb4:=(hb2.mono h3.le).mono h4.le
      have hx4:=(hx2.mono h3.le).mono h4.le
      split
      ·refine Sim.bnd (sim_firstCells size m hx4) ?_
       intro R5 h5 w w' hw
       have hb5:=hb4.mono h5.le
       cases hb5 with
       | none => exact Sim.ret (.slice .none)
       | some ha =>
        refine Sim.bnd (sim_storeCells _ _ 0 (ha.add _) hw.toList) ?_
        rintro R6 h6 _ _ rfl
        exact Sim.ret (.slice (.some (ha.mono h6.le)))
      ·refine Sim.bnd (sim_typeInfo elem) ?_
       rintro R5 h5 inf _ ⟨rfl,hi5⟩
       split
       ·exact .inl (never_runtimePanic.bnd _)
       ·refine Sim.bnd (sim_typeInfo elem) ?_
        rintro R6 h6 inf2 _ ⟨rfl,hi6⟩
        have hb6:=(hb4.mono h5.le).mono h6.le
        have hx6:=(hx4.mono h5.le).mono h6.le
        split
        ·refine .inl (Never.bnd (Never.then (soft_mayShare _ _ _ _ _) λ sh => ?_) _)
         split
         ·exact Never.then (soft_mark _) λ _ => never_unsupported
         ·exact never_unsupported
        ·refine Sim.bnd (sim_choose _) ?_
         rintro R7 h7 nc _ rfl
         refine Sim.bnd (sim_typeInfo elem) ?_
         rintro R8 h8 inf3 _ ⟨rfl,hi8⟩
         refine Sim.bnd (sim_askRoom _) ?_
         rintro R9 h9 _ _ rfl
         have hb9:=((hb6.mono h7.le).mono h8.le).mono h9.le
         have hx9:=((hx6.mono h7.le).mono h8.le).mono h9.le
         refine Sim.bnd (sim_firstCells size n (.slice hb9)) ?_
         intro R10 h10 o o' ho
         refine Sim.bnd (sim_firstCells size m (hx9.mono h10.le)) ?_
         intro R11 h11 w w' hw
         refine Sim.bnd (sim_zeroValue hz elem) ?_
         intro R12 h12 z z' hzz
         refine Sim.bnd (sim_newRow elem (((ho.mono (h11.trans h12).le).append (hw.mono h12.le)).append (zeroCells_rel hzz.cells _))) ?_
         intro R13 h13 r r' hr
         exact Sim.ret (.slice (.some hr))
     | _ => exact .inl never_stuck
    | _ => exact .inl never_stuck
theorem sim_copy (ts : Array TypeId) (t : TypeId) {xs xs' : Array Value} (h : ArR S K R xs xs') : Sim P S K (VA S K) (Builtin.copy_ ts t xs) R (Builtin.copy_ ts t xs'):=by
 unfold Builtin.copy_
 cases e0 : ts[0]? with
 | none => exact .inl never_stuck
 | some st =>
  have ho:=h.opt 0
  have ho1:=h.opt 1
  generalize xs[0]? = o at ho
  generalize xs'[0]? = o' at ho
  generalize xs[1]? = p at ho1
  generalize xs'[1]? = p' at ho1
  cases ho with
  | none => exact .inl never_stuck
  | some hs =>
   cases ho1 with
   | none => exact .inl never_stuck
   | some hx =>
    simp only
    refine Sim.bnd (sim_underlying st) ?_
    rintro R1 h1 d _ ⟨rfl,hd⟩
    cases d with
    | slice elem =>
     cases hs with
     | slice hb =>
      refine Sim.bnd (sim_lenOf (hx.mono h1.le)) ?_
      rintro R2 h2 m _ rfl
      refine Sim.bnd (sim_sizeOf elem) ?_
      rintro R3 h3 size _ rfl
      refine Sim.bnd (sim_firstCells size _ (((hx.mono h1.le).mono h2.le).mono h3.le)) ?_
      intro R4 h4 w w' hw
      have hb4:=(((hb.mono h1.le).mono h2.le).mono h3.le).mono h4.le
      cases hb4 with
      | none => exact Sim.ret (.int _ _)
      | some ha =>
       refine Sim.bnd (sim_storeCells _ _ 0 ha hw.toList) ?_
       rintro R6 h6 _ _ rfl
       exact Sim.ret (.int _ _)
     | _ => exact .inl never_stuck
    | _ => exact .inl never_stuck
end
end Go.Tt
namespace Go.Tt
section
variable {P : Pair} {S : FuncId -> Prop} {K : Pr} {α β γ δ : Type} {R : Pr}
theorem sim_makeInterface (t : TypeId) {v v' : Value} (h : VR S K R v v') : Sim P S K (VA S K) (Instr.makeInterface t v) R (Instr.makeInterface t v'):=by
 unfold Instr.makeInterface
 refine Sim.bnd (sim_underlying t) ?_
 rintro R1 h1 d _ ⟨rfl,hd⟩
 cases d with
 | interface _ => exact .inl never_stuck
 | _ => exact Sim.ret (.iface (h.mono h1.le))
theorem tile_rel {z z' : Array Value} (h : ArR S K R z z') (n : Nat) : ArR S K R ((Array.range n).map (z[· % z.size]!)) ((Array.range n).map (z'[· % z'.size]!)):=by
 refine ⟨by simp,λ i v v' h1 h2 => ?_⟩
 rw [Array.getElem?_map] at h1 h2
 rw [<- h.1] at h2
 cases q : (Array.range n)[i]? with
 | none => rw [q] at h1; cases h1
 | some j =>
  rw [q] at h1 h2
  cases h1
  cases h2
  cases q1 : z[j % z.size]? with
  | none =>
   have q2:=h.none q1
   show VR S K R (z[j % z.size]!) (z'[j % z.size]!)
   rw [getElem!_def,getElem!_def,q1,q2]
   exact .bool false
  | some u =>
   obtain ⟨u',q2,hu⟩:=h.get q1
   show VR S K R (z[j % z.size]!) (z'[j % z.size]!)
   rw [getElem!_def,getElem!_def,q1,q2]
   exact hu
theorem sim_zeroOr (hz : ZeroOk P S) (n : Nat) (e : TypeId) {F F' : Array Value -> Sem Value} (hF : ∀ R1,Ext P K R R1 -> ∀ z z',ArR S K R1 z z' -> Sim P S K (VA S K) (F z) R1 (F' z')) :
  Sim P S K (VA S K) (if n = 0 then do let z <- pure #[]; F z else do let l <- zeroValue e; let z <- pure l.cells; F z) R (if n = 0 then do let z <- pure #[]; F' z else do let l <- zeroValue e; let z <- pure l.cells; F' z):=by
 split
 ·exact Sim.bnd (Sim.ret (A:=λ R a b => ArR S K R a b) ArR.empty) hF
 ·refine Sim.bnd (sim_zeroValue hz e) ?_
  intro R1 h1 z z' hzz
  exact Sim.bnd (Sim.ret (A:=λ R a b => ArR S K R a b) hzz.cells) (λ R2 h2 a b hab => hF R2 (h1.trans h2) a b hab)
theorem sim_makeSlice (hz : ZeroOk P S) (t : TypeId) {l l' c c' : Value} (hl : VR S K R l l') (hc : VR S K R c c') : Sim P S K (VA S K) (Instr.makeSlice t l c) R (Instr.makeSlice t l' c'):=by
 unfold Instr.makeSlice
 refine Sim.bnd (sim_underlying t) ?_
 rintro R1 h1 d _ ⟨rfl,hd⟩
 cases d with
 | slice elem =>
  refine Sim.bnd (sim_asInt (hl.mono h1.le)) ?_
  rintro R2 h2 ln _ rfl
  refine Sim.bnd (sim_asInt ((hc.mono h1.le).mono h2.le)) ?_
  rintro R3 h3 cp _ rfl
  refine Sim.bnd (sim_typeInfo elem) ?_
  rintro R4 h4 inf _ ⟨rfl,hi⟩
  simp only
  split
  ·left
   split
   ·exact never_runtimePanic.bnd _
   ·split
    ·exact never_runtimePanic.bnd _
    ·exact Never.then (soft_choose _) λ _ => never_runtimePanic.bnd _
  ·refine Sim.bnd (sim_askRoom _) ?_
   rintro R5 h5 _ _ rfl
   refine Sim.bnd (sim_sizeOf elem) ?_
   rintro R6 h6 sz _ rfl
   refine sim_zeroOr hz _ elem ?_
   intro R7 h7 z z' hzz
   refine Sim.bnd (sim_newRow elem (tile_rel hzz _)) ?_
   intro R8 h8 r r' hr
   exact Sim.ret (.slice (.some hr))
 | _ => exact .inl never_stuck
inductive PsR (S : FuncId -> Prop) (K R : Pr) : List (Nat × Value) -> List (Nat × Value) -> Prop
 | nil : PsR S K R [] []
 | cons {i : Nat} {v v' : Value} {l l' : List (Nat × Value)} : VR S K R v v' -> PsR S K R l l' -> PsR S K R ((i,v) :: l) ((i,v') :: l')
theorem PsR.mono {R' : Pr} (hR : R.le R') {l l' : List (Nat × Value)} (h : PsR S K R l l') : PsR S K R' l l':=by
 induction h with
 | nil => exact .nil
 | cons a _ ih => exact .cons (a.mono hR) ih
inductive OarR (S : FuncId -> Prop) (K R : Pr) : Option (Array Value) -> Option (Array Value) -> Prop
 | none : OarR S K R none none
 | some {c c' : Array Value} : ArR S K R c c' -> OarR S K R (some c) (some c')
theorem setAll_rel (off : Nat) : ∀ (l l' : List Value) (j : Nat) {c c' : Array Value},LsR S K R l l' -> ArR S K R c c' ->
  ArR S K R ((l.zipIdx j).foldl (λ cs (x : Value × Nat) => cs.setIfInBounds (off + x.2) x.1) c) ((l'.zipIdx j).foldl (λ cs (x : Value × Nat) => cs.setIfInBounds (off + x.2) x.1) c')
 | [],[],j,c,c',_,h => h
 | [],_ :: _,_,_,_,h,_ => by have:=h.1; simp at this
 | _ :: _,[],_,_,_,h,_ => by have:=h.1; simp at this
 | x :: l,x' :: l',j,c,c',h,hc => by
  obtain ⟨a,b⟩:=h.cons
  simp only [List.zipIdx_cons,List.foldl_cons]
  exact setAll_rel off l l' (j + 1) b (hc.set _ a)
theorem fill_rel (place : Nat -> Option (Nat × Nat)) : ∀ (l l' : List (Nat × Value)) {c c' : Array Value},PsR S K R l l' -> ArR S K R c c' -> OarR S K R (Instr.fill place c l) (Instr.fill place c' l')
 | [],_,c,c',.nil,h => .some h
 | (i,v) :: l,(_,v') :: l',c,c',.cons a b,h => by
  unfold Instr.fill
  cases place i with
  | none => exact .none
  | some os =>
   obtain ⟨off,size⟩:=os
   have e1 : v.cells.size = v'.cells.size:=a.cells.1
   have e2 : c.size = c'.size:=h.1
   simp only
   rw [e1,e2]
   split
   ·exact .none
   ·refine fill_rel place l l' b ?_
    have:=setAll_rel off v.cells.toList v'.cells.toList 0 a.cells.toList h
    rw [<- Array.foldl_toList,<- Array.foldl_toList]
    simpa using this
theorem sim_buildSlice (hz : ZeroOk P S) (t : TypeId) (n : Nat) {ps ps' : Array (Nat × Value)} (h : PsR S K R ps.toList ps'.toList) : Sim P S K (VA S K) (Instr.buildSlice t n ps) R (Instr.buildSlice t n ps'):=by
 unfold Instr.buildSlice
 refine Sim.bnd (sim_underlying t) ?_
 rintro R1 h1 d _ ⟨rfl,hd⟩
 cases d with
 | slice elem =>
  refine Sim.bnd (sim_sizeOf elem) ?_
  rintro R2 h2 size _ rfl
  simp only
  split
  ·exact .inl (Never.bnd never_unsupported _)
  ·refine sim_zeroOr hz _ elem ?_
   intro R3 h3 z z' hzz
   have hf:=fill_rel (λ i => some (i * size,size)) _ _ (((h.mono h1.le).mono h2.le).mono h3.le) (tile_rel hzz (n * size))
   revert hf
   generalize Instr.fill _ _ ps.toList = o
   generalize Instr.fill _ _ ps'.toList = o'
   intro hf
   cases hf with
   | none => exact .inl never_stuck
   | some hc =>
    refine Sim.bnd (sim_newRow elem hc) ?_
    intro R8 h8 r r' hr
    exact Sim.ret (.slice (.some hr))
 | _ => exact .inl never_stuck
theorem sim_mapMList {ι κ : Type} {f : ι -> Sem κ} (hf : ∀ x (R : Pr),Sim P S K EqA (f x) R (f x)) : ∀ (l : List ι) {R : Pr},Sim P S K EqA (l.mapM f) R (l.mapM f)
 | [],R => by rw [List.mapM_nil]; exact Sim.ret rfl
 | x :: l,R => by
  rw [List.mapM_cons]
  refine Sim.bnd (hf x R) ?_
  rintro R1 h1 a _ rfl
  refine Sim.bnd (sim_mapMList hf l) ?_
  rintro R2 h2 b _ rfl
  exact Sim.ret rfl
theorem sim_build (hz : ZeroOk P S) (t : TypeId) {ps ps' : Array (Nat × Value)} (h : PsR S K R ps.toList ps'.toList) : Sim P S K (VA S K) (Instr.build t ps) R (Instr.build t ps'):=by
 have fin : ∀ {R3 : Pr} (place : Nat -> Option (Nat × Nat)) (why : String) {z z' : Array Value},R.le R3 -> ArR S K R3 z z' -> Sim P S K (VA S K) (match Instr.fill place z ps.toList with | some cells => pure (.agg cells) | _ => stuck why) R3 (match Instr.fill place z' ps'.toList with | some cells => pure (.agg cells) | _ => stuck why):=by
  intro R3 place why z z' hle hzz
  have hf:=fill_rel place _ _ (h.mono hle) hzz
  revert hf
  generalize Instr.fill _ _ ps.toList = o
  generalize Instr.fill _ _ ps'.toList = o'
  intro hf
  cases hf with
  | none => exact .inl never_stuck
  | some hc => exact Sim.ret (VR.agg' hc)
 unfold Instr.build
 refine Sim.bnd (sim_zeroValue hz t) ?_
 intro R1 h1 z z' hzz
 refine Sim.bnd (sim_underlying t) ?_
 rintro R2 h2 d _ ⟨rfl,hd⟩
 cases d with
 | struct fields =>
  refine Sim.bnd (A:=EqA) ?_ ?_
  ·rw [Array.mapM_eq_mapM_toList,map_eq_pure_bind]
   refine Sim.bnd (sim_mapMList (λ f R => Sim.bnd (sim_sizeOf _) (λ R1 h1 a b e => by cases e; exact Sim.ret rfl)) fields.toList) ?_
   rintro R3 h3 l _ rfl
   exact Sim.ret rfl
  ·rintro R3 h3 places _ rfl
   exact fin _ _ (h1.trans (h2.trans h3)).le ((hzz.cells.mono h2.le).mono h3.le)
 | array n elem =>
  refine Sim.bnd (sim_sizeOf elem) ?_
  rintro R3 h3 size _ rfl
  exact fin _ _ (h1.trans (h2.trans h3)).le ((hzz.cells.mono h2.le).mono h3.le)
 | _ => exact .inl never_stuck
end
end Go.Tt
namespace Go.Tt
section
variable {P : Pair} {S : FuncId -> Prop} {K : Pr} {R : Pr}
theorem sim_intArith (op : BinOp) (k : IntKind) (a b : Int) : Sim P S K (VA S K) (Op.intArith op k a b) R (Op.intArith op k a b):=by
 cases op <;> first | exact Sim.ret (.int _ _) | exact .inl never_stuck
theorem sim_intDiv (op : BinOp) (k : IntKind) (a b : Int) : Sim P S K (VA S K) (Op.intDiv op k a b) R (Op.intDiv op k a b):=by
 unfold Op.intDiv
 split
 ·exact .inl never_runtimePanic
 ·cases op <;> first | exact Sim.ret (.int _ _) | exact .inl never_stuck
theorem sim_intBits (op : BinOp) (k : IntKind) (a b : Int) : Sim P S K (VA S K) (Op.intBits op k a b) R (Op.intBits op k a b):=by
 cases op <;> first | exact Sim.ret (.int _ _) | exact .inl never_stuck
theorem sim_shift (op : BinOp) (k : IntKind) (a : Int) (k' : IntKind) (b : Int) : Sim P S K (VA S K) (Op.shift op k a k' b) R (Op.shift op k a k' b):=by
 unfold Op.shift
 split
 ·exact .inl never_runtimePanic
 ·cases op <;> first | exact Sim.ret (.int _ _) | exact .inl never_stuck
theorem sim_intCmp (op : BinOp) (a b : Int) : Sim P S K (VA S K) (Op.intCmp op a b) R (Op.intCmp op a b):=by
 cases op <;> first | exact Sim.ret (.bool _) | exact .inl never_stuck
theorem sim_stringOp (op : BinOp) (a b : ByteArray) : Sim P S K (VA S K) (Op.stringOp op a b) R (Op.stringOp op a b):=by
 unfold Op.stringOp
 cases op <;> first | exact Sim.ret (.bool _) | exact .inl never_stuck | skip
 simp only
 split
 ·exact .inl never_unsupported
 ·exact Sim.ret (.string _)
theorem sim_unary (op : UnOp) {x x' : Value} (h : VR S K R x x') : Sim P S K (VA S K) (Op.unary op x) R (Op.unary op x'):=by
 cases h with
 | int k n => cases op <;> first | exact sim_intArith .sub k 0 n | exact sim_intBits .xor k _ n | exact .inl never_stuck
 | bool b => cases op <;> first | exact Sim.ret (.bool _) | exact .inl never_stuck
 | pointer h => cases h <;> cases op <;> first | exact .inl never_unsupported | exact .inl never_stuck
 | _ => cases op <;> exact .inl never_stuck
theorem Pair.cellOfByte_g (P : Pair) : ∀ (d : Nat) (t : TypeId) (o : Nat),cellOfByte P.g d t o = cellOfByte P.c d t o:=by
 intro d
 induction d with
 | zero => intro t o; rfl
 | succ d ih =>
  intro t o
  unfold cellOfByte
  rw [P.underlying_g]
  simp only [ih,P.cells_g,P.bytes_g]
  rfl
theorem Pair.cellAtBytes_g (P : Pair) (d : Nat) (e : TypeId) (c o : Nat) (b : Int) : cellAtBytes P.g d e c o b = cellAtBytes P.c d e c o b:=by
 unfold cellAtBytes
 simp only [P.cells_g,P.bytes_g,P.byteOfCell_g,P.cellOfByte_g]
 rfl
theorem sim_unsafeAddP (ts : Array TypeId) (t : TypeId) {x x' y y' : Value} (hx : VR S K R x x') (hy : VR S K R y y') : Sim P S K (λ R v v' => ∃ a a',v = .pointer a /\ v' = .pointer a' /\ OaR R a a') (Builtin.unsafeAdd_ ts t #[x,y]) R (Builtin.unsafeAdd_ ts t #[x',y']):=by
 unfold Builtin.unsafeAdd_
 cases hx with
 | pointer hp =>
  refine Sim.bnd (sim_asInt hy) ?_
  rintro R1 h1 n _ rfl
  by_cases hn : n = 0
  ·simp only [if_pos hn]
   cases hp with
   | none => exact .inl never_unsupported
   | some ha =>
    cases ha with
    | mk hr =>
     refine Sim.bnd (sim_viewAt (h1.le _ _ hr)) ?_
     rintro R2 h2 _ _ ⟨rfl,rfl⟩
     exact Sim.ret ⟨_,_,rfl,rfl,.some (.mk (h2.le _ _ (h1.le _ _ hr)))⟩
  ·simp only [if_neg hn]
   by_cases h0 : n < 0
   ·simp only [if_pos h0]
    exact .inl (Never.bnd never_unsupported _)
   ·simp only [if_neg h0]
    cases hp with
    | none => exact .inl never_unsupported
    | some ha =>
     cases ha with
     | mk hr =>
      refine Sim.bnd (sim_shape (h1.le _ _ hr)) ?_
      rintro R2 h2 x _ rfl
      cases x with
      | none => exact .inl never_unsupported
      | some x =>
       obtain ⟨e,n⟩:=x
       refine Sim.bnd sim_program ?_
       rintro R3 h3 p q ⟨rfl,rfl⟩
       simp only [P.cells_g,P.depth_g,P.cellAtBytes_g]
       split
       ·exact Sim.ret ⟨_,_,rfl,rfl,.some (.mk (h3.le _ _ (h2.le _ _ (h1.le _ _ hr))))⟩
       ·exact .inl never_unsupported
 | _ => exact .inl never_stuck
theorem sim_unsafeAdd (ts : Array TypeId) (t : TypeId) {x x' y y' : Value} (hx : VR S K R x x') (hy : VR S K R y y') : Sim P S K (VA S K) (Builtin.unsafeAdd_ ts t #[x,y]) R (Builtin.unsafeAdd_ ts t #[x',y']):=
 (sim_unsafeAddP ts t hx hy).mono λ R' _ a b h => by
  obtain ⟨p,p',rfl,rfl,h⟩:=h
  exact .pointer h
theorem sim_asNumber {a a' : Addr} (h : AdR R a a') (l : Bool) : Sim P S K (VA S K) (asNumber a l) R (asNumber a' l):=by
 unfold asNumber
 refine Sim.bnd (sim_newObj (.number h)) ?_
 rintro R1 h1 n n' hn
 exact Sim.ret (.pointer (.some (.mk hn)))
theorem sim_behindNumberL {a a' : Addr} (h : AdR R a a') : Sim P S K (λ R x y => AdR R x.1 y.1 /\ x.2 = y.2) (behindNumber a) R (behindNumber a'):=by
 have h0:=h
 cases h with
 | mk h =>
  unfold behindNumber
  refine Sim.bnd (sim_numberAt h) ?_
  rintro R1 h1 x y (⟨rfl,rfl⟩ | ⟨p,p',l,rfl,rfl,hp⟩)
  ·exact Sim.ret ⟨h0.mono h1.le,rfl⟩
  ·exact Sim.ret ⟨hp,rfl⟩
theorem sim_movedNumber (t : TypeId) {x x' y y' : Value} (hx : VR S K R x x') (hy : VR S K R y y') : Sim P S K (VA S K) (movedNumber t x y) R (movedNumber t x' y'):=by
 unfold movedNumber
 refine Sim.bnd (sim_underlying t) ?_
 rintro R1 h1 d _ ⟨rfl,_⟩
 have k : Sim P S K (VA S K) (do
   let .pointer (some n):=x | Builtin.unsafeAdd_ #[] t #[x,y]
   let (a,lost) <- behindNumber n
   match <- Builtin.unsafeAdd_ #[] t #[.pointer (some a),y] with
   | .pointer (some b) => asNumber b lost
   | v => pure v) R1 (do
   let .pointer (some n):=x' | Builtin.unsafeAdd_ #[] t #[x',y']
   let (a,lost) <- behindNumber n
   match <- Builtin.unsafeAdd_ #[] t #[.pointer (some a),y'] with
   | .pointer (some b) => asNumber b lost
   | v => pure v):=by
  have hx1:=hx.mono h1.le
  have hy1:=hy.mono h1.le
  cases hx with
  | pointer hp =>
   cases hp with
   | none => exact sim_unsafeAdd _ _ hx1 hy1
   | some ha =>
    refine Sim.bnd (sim_behindNumberL (ha.mono h1.le)) ?_
    rintro R2 h2 ⟨a,l⟩ ⟨a',l'⟩ ⟨h3,h4⟩
    simp only at h3 h4
    subst h4
    refine Sim.bnd (sim_unsafeAddP _ _ (.pointer (.some h3)) (hy1.mono h2.le)) ?_
    rintro R3 h5 v v' ⟨p,p',rfl,rfl,hb⟩
    cases hb with
    | none => exact Sim.ret (.pointer .none)
    | some hb => exact sim_asNumber hb _
  | junk _ => exact .inl never_stuck
  | _ => exact sim_unsafeAdd _ _ hx1 hy1
 cases d <;> first | exact k | exact .inl never_unsupported | exact .inl (Never.bnd never_unsupported _)
theorem sim_movedPointer (t : TypeId) {x x' y y' : Value} (hx : VR S K R x x') (hy : VR S K R y y') : Sim P S K (VA S K) (movedPointer t x y) R (movedPointer t x' y'):=by
 unfold movedPointer
 have hx0:=hx
 cases hx with
 | pointer hp =>
  cases hp with
  | none => exact sim_unsafeAdd _ _ hx0 hy
  | some ha =>
   have ha0:=ha
   cases ha with
   | mk hr =>
    refine Sim.bnd (sim_numberAt hr) ?_
    rintro R1 h1 x y (⟨rfl,rfl⟩ | ⟨p,p',l,rfl,rfl,hp⟩)
    ·exact sim_unsafeAdd #[] t (hx0.mono h1.le) (hy.mono h1.le)
    ·exact .inl never_unsupported
 | _ => exact sim_unsafeAdd _ _ hx0 hy
end
end Go.Tt
namespace Go.Tt
section
variable {P : Pair} {S : FuncId -> Prop} {K : Pr} {R : Pr}
theorem sim_twoPlaces (hR : RelOk P K R) {a a' b b' : Addr} (ha : AdR R a a') (hb : AdR R b b') : Sim P S K EqA (Op.twoPlaces a b) R (Op.twoPlaces a' b'):=by
 unfold Op.twoPlaces
 refine Sim.bnd sim_programS ?_
 rintro R1 _ p q ⟨rfl,rfl,rfl⟩
 have e1:=AdR.block_eq hR ha hb
 have e2:=AdR.low hR ha
 have e3 : decide (a.block >= P.globals.size) = decide (a'.block >= P.globals.size):=by
  have:=decide_eq_decide.1 e2
  exact decide_eq_decide.2 (by omega)
 have hc : (a.block != b.block || decide (a.block >= P.g.globals.size)) = (a'.block != b'.block || decide (a'.block >= P.c.globals.size)):=by
  rw [P.globals_g]
  show (!(a.block == b.block) || _) = (!(a'.block == b'.block) || _)
  rw [e1]
  congr 1
 by_cases h : (a.block != b.block || decide (a.block >= P.g.globals.size)) = true
 ·simp only [if_pos h]
  exact .inl (Never.bnd never_unsupported _)
 ·have h' : ¬ (a'.block != b'.block || decide (a'.block >= P.c.globals.size)) = true:=by rw [<- hc]; exact h
  simp only [if_neg h,if_neg h']
  refine Sim.bnd (sim_byteOf ha) ?_
  rintro R4 h4 m _ rfl
  refine Sim.bnd (sim_byteOf (hb.mono h4.le)) ?_
  rintro R5 h5 m' _ rfl
  exact Sim.ret rfl
theorem sim_addrSub (hR : RelOk P K R) (k : IntKind) {a a' b b' : Addr} (ha : AdR R a a') (hb : AdR R b b') : Sim P S K (VA S K) (Op.addrSub k a b) R (Op.addrSub k a' b'):=by
 unfold Op.addrSub
 refine Sim.bnd (sim_twoPlaces hR ha hb) ?_
 rintro R1 _ ⟨x,y⟩ _ rfl
 exact Sim.ret (.int _ _)
theorem sim_addrCmp (hR : RelOk P K R) (op : BinOp) {a a' b b' : Addr} (ha : AdR R a a') (hb : AdR R b b') : Sim P S K (VA S K) (Op.addrCmp op a b) R (Op.addrCmp op a' b'):=by
 unfold Op.addrCmp
 refine Sim.bnd (sim_twoPlaces hR ha hb) ?_
 rintro R1 _ ⟨x,y⟩ _ rfl
 cases op <;> first | exact Sim.ret (.bool _) | exact .inl never_unsupported
theorem sim_addrMod (k : IntKind) {a a' : Addr} (ha : AdR R a a') (n : Int) : Sim P S K (VA S K) (Op.addrMod k a n) R (Op.addrMod k a' n):=by
 unfold Op.addrMod
 have ha0:=ha
 cases ha with
 | mk hr =>
  refine Sim.bnd (sim_shape hr) ?_
  rintro R1 h1 x _ rfl
  cases x with
  | none => exact .inl never_unsupported
  | some x =>
   obtain ⟨e,c⟩:=x
   refine Sim.bnd (sim_typeInfo e) ?_
   rintro R2 h2 i _ ⟨rfl,_⟩
   simp only
   split
   ·exact .inl (Never.bnd never_unsupported _)
   ·refine Sim.bnd (sim_byteOf (ha0.mono (h1.trans h2).le)) ?_
    rintro R3 h3 m _ rfl
    exact Sim.ret (.int _ _)
theorem never_binOp (op : BinOp) (t : TypeId) {x y : Value} (ho : op ≠ .eql /\ op ≠ .neq) (hx : ∀ k n,x ≠ .int k n) (hs : ∀ s,x ≠ .string s) (hp : ∀ a,x ≠ .pointer a) (hf : ∀ k n,x ≠ .float k n) (hc : ∀ k n m,x ≠ .complex k n m) : Never P (binOp op t x y):=by
 unfold binOp
 split <;> first | exact never_stuck | exact never_unsupported | (exfalso; first | exact hx _ _ rfl | exact hs _ rfl | exact hp _ rfl | exact hf _ _ rfl | exact hc _ _ _ rfl | exact ho.1 rfl | exact ho.2 rfl)
theorem sim_arith (op : BinOp) (t : TypeId) (ho : op ≠ .eql /\ op ≠ .neq) (hR : RelOk P K R) {x x' y y' : Value} (hx : VR S K R x x') (hy : VR S K R y y') :
  Sim P S K (VA S K) (binOp op t x y) R (binOp op t x' y'):=by
 have hx0:=hx
 have hy0:=hy
 cases hx with
 | int k a =>
  cases hy with
  | int k' b =>
   by_cases hk : k = k'
   ·subst hk
    cases op <;> simp only [binOp,ne_eq,not_true_eq_false,if_false] <;> first | exact sim_intArith _ _ _ _ | exact sim_intDiv _ _ _ _ | exact sim_intBits _ _ _ _ | exact sim_shift _ _ _ _ _ | exact sim_intCmp _ _ _
   ·cases op <;> simp only [binOp,ne_eq,hk,not_false_eq_true,if_true] <;> first | exact sim_shift _ _ _ _ _ | exact .inl never_stuck
  | pointer hp =>
   cases op <;> first | exact absurd rfl ho.1 | exact absurd rfl ho.2 | exact sim_movedNumber t hy0 hx0 | skip
   all_goals (cases hp <;> first | exact .inl never_unsupported | skip)
   rename_i hb
   refine Sim.bnd (sim_behindNumber hb) ?_
   intro R1 h1 u v huv
   exact sim_addrMod _ huv _
  | _ => cases op <;> first | exact absurd rfl ho.1 | exact absurd rfl ho.2 | exact .inl never_stuck
 | string a =>
  cases hy with
  | string b => cases op <;> simp only [binOp] <;> exact sim_stringOp _ _ _
  | pointer hp => cases op <;> first | exact absurd rfl ho.1 | exact absurd rfl ho.2 | exact .inl never_unsupported
  | _ => cases op <;> first | exact absurd rfl ho.1 | exact absurd rfl ho.2 | exact .inl never_stuck
 | pointer hp =>
  cases hy with
  | int k n =>
   have e : ∀ m,VR S K R (.int k m) (.int k m):=λ m => .int k m
   cases op <;> first | exact absurd rfl ho.1 | exact absurd rfl ho.2 | exact sim_movedNumber t hx0 (e _) | skip
   all_goals first | (cases hp <;> first | exact .inl never_unsupported | (rename_i hb; refine Sim.bnd (sim_behindNumber hb) ?_; intro R1 h1 u v huv; exact sim_addrMod _ huv _)) | skip
   all_goals
    simp only [binOp]
    refine Sim.bnd (sim_underlying t) ?_
    rintro R1 h1 d _ ⟨rfl,_⟩
    cases d <;> first | exact sim_movedPointer t (hx0.mono h1.le) (hy0.mono h1.le) | exact sim_movedNumber t (hx0.mono h1.le) (hy0.mono h1.le)
  | pointer hq =>
   cases hp with
   | none => cases hq <;> cases op <;> first | exact absurd rfl ho.1 | exact absurd rfl ho.2 | exact .inl never_unsupported
   | some ha =>
    cases hq with
    | none => cases op <;> first | exact absurd rfl ho.1 | exact absurd rfl ho.2 | exact .inl never_unsupported
    | some hb =>
     have two : ∀ {F F' : Addr -> Addr -> Sem Value},(∀ u u' v v',AdR R u u' -> AdR R v v' -> Sim P S K (VA S K) (F u v) R (F' u' v')) -> ∀ {a1 a1' a2 a2'},AdR R a1 a1' -> AdR R a2 a2' ->
       Sim P S K (VA S K) (do F (<- behindNumber a1).1 (<- behindNumber a2).1) R (do F' (<- behindNumber a1').1 (<- behindNumber a2').1):=by
      intro F F' hF a1 a1' a2 a2' h1 h2
      refine Sim.bnd (sim_behindNumberS h1) ?_
      rintro R1 _ u u' ⟨rfl,hu⟩
      refine Sim.bnd (sim_behindNumberS h2) ?_
      rintro R2 _ v v' ⟨rfl,hv⟩
      exact hF _ _ _ _ hu hv
     cases op <;> first | exact absurd rfl ho.1 | exact absurd rfl ho.2 | exact .inl never_unsupported | exact two (λ u u' v v' h1 h2 => sim_addrSub hR _ h1 h2) ha hb | exact two (λ u u' v v' h1 h2 => sim_addrCmp hR _ h1 h2) ha hb
  | _ => cases op <;> first | exact absurd rfl ho.1 | exact absurd rfl ho.2 | exact .inl never_unsupported | (cases hp <;> exact .inl never_unsupported)
 | _ => exact .inl (never_binOp op t ho (by simp) (by simp) (by simp) (by simp) (by simp))
end
end Go.Tt
namespace Go.Tt
def Ends {α : Type} (r : Result α) : Prop:=(∃ x w',r = .ok x w') \/ ∃ h w',r = .halt h w' /\ TameH h
theorem Ends.halt {α : Type} {h : Halt} {w : World} (ht : TameH h) : Ends (.halt h w : Result α):=.inr ⟨h,w,rfl,ht⟩
theorem Sim.tame {P : Pair} {S : FuncId -> Prop} {α β : Type} {K : Pr} {A : Pr -> α -> β -> Prop} {G : Gp} {St : Nat -> Prop} (hG : G = P.gp) (s : Sem α) :
  ∀ {R : Pr} {w W : World} {s' : Sem β},Sim P S K A s R s' -> WRel S K R G St w W -> Tp w W -> Ends (s.run P.g w):=by
 induction s with
 | pure a =>
  rintro R w W s' (hn | ⟨b,rfl,h⟩) hw ht
  ·exact .inr (hn _ hw.np)
  exact .inl ⟨a,w,rfl⟩
 | load m a k ih =>
  rintro R w W s' (hn | ⟨rfl,a',k',rfl,ha,hk⟩) hw ht
  ·exact .inr (hn _ hw.np)
  obtain ⟨hab⟩:=ha
  rename_i b b' o sp
  obtain ⟨ob,ob',h1,h2,h3⟩:=hw.cont b b' hab
  cases h3 with
  | cells hc hz =>
   rename_i c c' T fz fz'
   cases sp with
   | some sp => simp only [Sem.run,World.cell?,h1,World.farLoad,World.noCell]; exact .halt trivial
   | none =>
    cases hv : c[o]? with
    | none => simp only [Sem.run,World.cell?,h1,World.farLoad,World.noCell,hv]; exact .halt trivial
    | some v =>
     obtain ⟨v',hv',hvv⟩:=hc.get hv
     have e1 : w.cell? ⟨b,o,none⟩ = some v:=by simp [World.cell?,h1,hv]
     rw [Sem.run,e1]
     exact ih v (hk v v' hvv) hw ht
  | _ => simp only [Sem.run,World.cell?,h1,World.farLoad,World.noCell]; exact .halt trivial
 | store m a v k ih =>
  rintro R w W s' (hn | ⟨rfl,a',v',k',rfl,ha,hv,hk⟩) hw ht
  ·exact .inr (hn _ hw.np)
  obtain ⟨hab⟩:=ha
  rename_i b b' o sp
  by_cases hna : ∃ cs,v = .agg cs
  ·obtain ⟨cs,rfl⟩:=hna; rw [Sem.run]; exact .halt trivial
  by_cases hnt : ∃ cs,v = .tuple cs
  ·obtain ⟨cs,rfl⟩:=hnt; rw [Sem.run]; exact .halt trivial
  rw [Sem.run]
  rotate_left
  ·exact λ cs e => hna ⟨cs,e⟩
  ·exact λ cs e => hnt ⟨cs,e⟩
  obtain ⟨ob,ob',h1,h2,h3⟩:=hw.cont b b' hab
  cases h3 with
  | cells hc hz =>
   rename_i c c' T fz fz'
   cases sp with
   | some sp => simp only [World.cell?,h1,World.farStore,World.noCell]; exact .halt trivial
   | none =>
    cases hv0 : c[o]? with
    | none => simp only [World.cell?,h1,World.farStore,World.noCell,hv0]; exact .halt trivial
    | some v0 =>
     have e1 : w.cell? ⟨b,o,none⟩ = some v0:=by simp [World.cell?,h1,hv0]
     rw [e1]
     simp only
     cases hfz : w.frozen? ⟨b,o,none⟩ with
     | true => exact .halt trivial
     | false =>
      simp only [Bool.false_eq_true,if_false]
      have nfz : ¬ inFz fz o:=by
       intro ⟨z1,z2⟩
       simp [World.frozen?,h1,z1,z2] at hfz
      have hns : ¬ St b:=by
       intro hs
       obtain ⟨_,c2,T2,hi,g1,g2⟩:=hw.st b hs
       rw [h1] at g1
       injection g1 with g1
       injection g1 with g1 _ g3
       subst g1 g3
       exact nfz ⟨Nat.zero_le _,Nat.lt_of_lt_of_le (Array.getElem?_eq_some_iff.1 hv0).1 g2⟩
      rw [setCell_eq h1]
      have st:=WStep.upd hw hab hns (ObR.cells (T:=T) (hc.set o hv) hz)
      exact ih hk st.rel (ht.step st)
  | _ => simp only [World.cell?,h1,World.farStore,World.noCell]; exact .halt trivial
 | new o k ih =>
  rintro R w W s' (hn | ⟨o',k',rfl,ho,hk⟩) hw ht
  ·exact .inr (hn _ hw.np)
  rw [Sem.run]
  have st:=WStep.push hw ho
  exact ih _ (hk _ _ ⟨λ b hb => absurd (hw.lt _ _ hb).1 (Nat.lt_irrefl _),λ a ha => absurd (hw.lt _ _ ha).2 (Nat.lt_irrefl _),by subst hG; exact hw.gle⟩) st.rel (ht.step st)
 | shape r k ih =>
  rintro R w W s' (hn | ⟨r',k',rfl,hrr,hk⟩) hw ht
  ·exact .inr (hn _ hw.np)
  rw [Sem.run]
  exact ih _ (hk _) hw ht
 | freeze a n k ih =>
  rintro R w W s' (hn | h) hw ht
  ·exact .inr (hn _ hw.np)
  ·exact h.elim
 | frozen a k ih =>
  rintro R w W s' (hn | ⟨r',k',rfl,hk⟩) hw ht
  ·exact .inr (hn _ hw.np)
  rw [Sem.run]
  exact ih _ (hk _ true) hw ht
 | getObj r k ih =>
  rintro R w W s' (hn | ⟨r',k',rfl,hrr,hk⟩) hw ht
  ·exact .inr (hn _ hw.np)
  rw [Sem.run]
  rcases hw.orR hrr with x | x
  ·obtain ⟨ob,ob',h1,h2,h3⟩:=hw.cont r r' x
   rw [h1]
   have go : Ends ((k ob).run P.g w):=ih ob (hk _ _ h3) hw ht
   cases h3 <;> first | exact go | exact .halt trivial
  ·rw [x]; exact .halt trivial
 | setObj r o k ih =>
  rintro R w W s' (hn | ⟨r',o',k',rfl,hrr,ho,hk⟩) hw ht
  ·exact .inr (hn _ hw.np)
  rw [Sem.run]
  rcases hw.orR hrr with x | x
  ·obtain ⟨ob,ob',h1,h2,h3⟩:=hw.cont r r' x
   rw [h1]
   have go : (∀ c T fz,ob ≠ .cells c T fz) -> Ends (k.run P.g { w with heap:=w.heap.setIfInBounds r o }):=λ n1 => by
    have hns : ¬ St r:=by
     intro hs
     obtain ⟨_,c2,T2,hi,g1,g2⟩:=hw.st r hs
     rw [h1] at g1
     injection g1 with g1
     exact n1 _ _ _ g1
    have st:=WStep.upd hw x hns ho
    exact ih hk st.rel (ht.step st)
   cases h3 <;> first | exact go (by simp) | exact .halt trivial
  ·rw [x]; exact .halt trivial
 | choose q k ih =>
  rintro R w W s' (hn | ⟨k',rfl,hk⟩) hw ht
  ·exact .inr (hn _ hw.np)
  rw [Sem.run]
  cases hq : q.forced with
  | true =>
   simp only [if_true]
   exact ih 0 (hk 0) hw ht
  | false =>
   simp only [Bool.false_eq_true,if_false]
   have st:=WStep.draw hw
   exact ih _ (hk _) st.rel (ht.step st)
 | sys c k ih =>
  rintro R w W s' (hn | h) hw ht
  ·exact .inr (hn _ hw.np)
  ·exact h.elim
 | program k ih =>
  rintro R w W s' (hn | ⟨k',rfl,hk⟩) hw ht
  ·exact .inr (hn _ hw.np)
  rw [Sem.run]
  exact ih _ hk hw ht
 | mark m k ih =>
  rintro R w W s' (hn | ⟨rfl,k',rfl,hk⟩) hw ht
  ·exact .inr (hn _ hw.np)
  rw [Sem.run]
  exact ih hk hw ht
 | halt h =>
  rintro R w W s' (hn | hx) hw ht
  ·exact .inr (hn _ hw.np)
  ·exact hx.elim
end Go.Tt
