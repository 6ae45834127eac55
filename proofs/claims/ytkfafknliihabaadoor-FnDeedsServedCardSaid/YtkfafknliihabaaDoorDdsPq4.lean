/-
 Part 4 of what stands behind the last text.
-/
import Derived.Conc.LoneSelect
import Derived.Conc.Beside
import Derived.Conc.Own5
import Derived.Conc.CompanyDraw
import Derived.Test.YtkfafknliihabaaDoorDdsPq3
set_option linter.unusedSectionVars false
set_option linter.unusedSimpArgs false
set_option linter.unusedVariables false
namespace Go.Tt
section
variable {P : Pair} {S : FuncId -> Prop} {K : Pr} {R : Pr}
theorem sim_foldlM {f : Value -> Value -> Sem Value} (hf : ∀ (R : Pr) a a' b b',VR S K R a a' -> VR S K R b b' -> Sim P S K (VA S K) (f a b) R (f a' b')) :
  ∀ (l l' : List Value) {R : Pr} {x x' : Value},VR S K R x x' -> LsR S K R l l' -> Sim P S K (VA S K) (l.foldlM f x) R (l'.foldlM f x')
 | [],[],R,x,x',hx,_ => Sim.ret hx
 | [],_ :: _,_,_,_,_,h => by have:=h.1; simp at this
 | _ :: _,[],_,_,_,_,h => by have:=h.1; simp at this
 | a :: l,a' :: l',R,x,x',hx,h => by
  obtain ⟨h1,h2⟩:=h.cons
  simp only [List.foldlM_cons]
  refine Sim.bnd (hf R _ _ _ _ hx h1) ?_
  intro R1 e1 v v' hv
  exact sim_foldlM hf l l' hv (h2.mono e1.le)
theorem sim_max2 {a a' b b' : Value} (ha : VR S K R a a') (hb : VR S K R b b') : Sim P S K (VA S K) (Builtin.max2 a b) R (Builtin.max2 a' b'):=by
 cases ha with
 | int k n => cases hb with
  | int k' n' => exact Sim.ret (.int _ _)
  | pointer h => cases h <;> first | exact .inl never_unsupported | exact .inl never_stuck
  | _ => exact .inl never_stuck
 | string s => cases hb with
  | string s' =>
   refine Sim.bnd (sim_stringOp .geq s s') ?_
   intro R1 e1 v v' hv
   refine Sim.bnd (sim_asBool hv) ?_
   rintro R2 e2 x _ rfl
   exact Sim.ret (.string _)
  | pointer h => cases h <;> first | exact .inl never_unsupported | exact .inl never_stuck
  | _ => exact .inl never_stuck
 | pointer h => cases h <;> cases hb <;> first | exact .inl never_unsupported | exact .inl never_stuck | (rename_i h2; cases h2 <;> first | exact .inl never_unsupported | exact .inl never_stuck)
 | _ => cases hb <;> first | exact .inl never_unsupported | exact .inl never_stuck | (rename_i h2; cases h2 <;> first | exact .inl never_unsupported | exact .inl never_stuck)
theorem sim_min2 {a a' b b' : Value} (ha : VR S K R a a') (hb : VR S K R b b') : Sim P S K (VA S K) (Builtin.min2 a b) R (Builtin.min2 a' b'):=by
 cases ha with
 | int k n => cases hb with
  | int k' n' => exact Sim.ret (.int _ _)
  | pointer h => cases h <;> first | exact .inl never_unsupported | exact .inl never_stuck
  | _ => exact .inl never_stuck
 | string s => cases hb with
  | string s' =>
   refine Sim.bnd (sim_stringOp .leq s s') ?_
   intro R1 e1 v v' hv
   refine Sim.bnd (sim_asBool hv) ?_
   rintro R2 e2 x _ rfl
   exact Sim.ret (.string _)
  | pointer h => cases h <;> first | exact .inl never_unsupported | exact .inl never_stuck
  | _ => exact .inl never_stuck
 | pointer h => cases h <;> cases hb <;> first | exact .inl never_unsupported | exact .inl never_stuck | (rename_i h2; cases h2 <;> first | exact .inl never_unsupported | exact .inl never_stuck)
 | _ => cases hb <;> first | exact .inl never_unsupported | exact .inl never_stuck | (rename_i h2; cases h2 <;> first | exact .inl never_unsupported | exact .inl never_stuck)
theorem sim_max (ts : Array TypeId) (t : TypeId) {xs xs' : Array Value} (h : ArR S K R xs xs') : Sim P S K (VA S K) (Builtin.max_ ts t xs) R (Builtin.max_ ts t xs'):=by
 unfold Builtin.max_
 have hl:=h.toList
 generalize xs.toList = l at hl ⊢
 generalize xs'.toList = l' at hl ⊢
 cases l <;> cases l'
 ·exact .inl never_stuck
 ·have:=hl.1; simp at this
 ·have:=hl.1; simp at this
 ·exact sim_foldlM (λ R a a' b b' => sim_max2) _ _ hl.cons.1 hl.cons.2
theorem sim_min (ts : Array TypeId) (t : TypeId) {xs xs' : Array Value} (h : ArR S K R xs xs') : Sim P S K (VA S K) (Builtin.min_ ts t xs) R (Builtin.min_ ts t xs'):=by
 unfold Builtin.min_
 have hl:=h.toList
 generalize xs.toList = l at hl ⊢
 generalize xs'.toList = l' at hl ⊢
 cases l <;> cases l'
 ·exact .inl never_stuck
 ·have:=hl.1; simp at this
 ·have:=hl.1; simp at this
 ·exact sim_foldlM (λ R a a' b b' => sim_min2) _ _ hl.cons.1 hl.cons.2
theorem sim_bytes {f : Value -> ByteArray -> Sem (ForInStep ByteArray)} (hf : ∀ (R : Pr) c c' s,VR S K R c c' -> Sim P S K EqA (f c s) R (f c' s)) : ∀ (l l' : List Value) {R : Pr} (s : ByteArray),LsR S K R l l' ->
  Sim P S K EqA (forIn (m:=Sem) l s f) R (forIn (m:=Sem) l' s f)
 | [],[],R,s,_ => Sim.ret rfl
 | [],_ :: _,_,_,h => by have:=h.1; simp at this
 | _ :: _,[],_,_,h => by have:=h.1; simp at this
 | a :: l,a' :: l',R,s,h => by
  obtain ⟨h1,h2⟩:=h.cons
  simp only [List.forIn_cons]
  refine Sim.bnd (hf R a a' s h1) ?_
  rintro R1 e1 x _ rfl
  cases x with
  | done b => exact Sim.ret rfl
  | yield b => exact sim_bytes hf l l' b (h2.mono e1.le)
theorem sim_bytesToString {x x' : Value} (h : VR S K R x x') : Sim P S K (VA S K) (Conv.bytesToString x) R (Conv.bytesToString x'):=by
 unfold Conv.bytesToString
 cases h with
 | slice ha =>
  cases ha with
  | none => exact Sim.ret (.string _)
  | some ha =>
   refine Sim.bnd (sim_loadCells ha _) ?_
   intro R1 e1 xs xs' hx
   simp only
   rw [<- Array.forIn_toList,<- Array.forIn_toList]
   refine Sim.bnd (sim_bytes (λ R c c' s hc => ?_) _ _ _ hx.toList) ?_
   ·cases hc with
    | int k n => cases k <;> first | exact Sim.ret rfl | exact .inl (never_stuck.bnd _) | exact .inl never_stuck
    | _ => first | exact .inl (never_stuck.bnd _) | exact .inl never_stuck
   rintro R2 e2 s _ rfl
   exact Sim.ret (.string _)
 | _ => exact .inl never_stuck
def nilChk (v : Value) : Sem Next:=
 match v with
 | .pointer none | .nilIface | .nilFunc => runtimePanic .nilDeref
 | .func (.method name) first captured =>
  match (first[0]? : Option Value) with
  | some .nilIface => runtimePanic .nilDeref
  | some (.iface t w) => do
   if (<- nilAhead ((<- program).types.size + Made.depth) t w name) != some false then
    unsupported (.noEntry "op/nilCheck.the method's receiver behind this interface value is a nil pointer, or cannot be seen to be none, and the arguments act or may panic (ledger 612)")
   pure (.value (.func (.method name) first captured))
  | _ => pure (.value (.func (.method name) first captured))
 | x => pure (.value x)
theorem sim_nilChk {x x' : Value} (h : VR S K R x x') : Sim P S K (λ R a b => ∃ v v',a = .value v /\ b = .value v' /\ VR S K R v v') (nilChk x) R (nilChk x'):=by
 unfold nilChk
 have h0:=h
 cases h with
 | pointer h => cases h with
  | none => exact .inl never_runtimePanic
  | some h => exact Sim.ret ⟨_,_,rfl,rfl,h0⟩
 | nilIface => exact .inl never_runtimePanic
 | nilFunc => exact .inl never_runtimePanic
 | junk h => exact .inl never_runtimePanic
 | _ => exact Sim.ret ⟨_,_,rfl,rfl,h0⟩
end
end Go.Tt
namespace Go.Tt
section
variable {P : Pair} {S : FuncId -> Prop} {K R : Pr}
theorem sim_forIn {α β : Type} {f f' : α -> β -> Sem (ForInStep β)} : ∀ (l : List α) (b : β) {R : Pr},RelOk P K R -> (∀ x ∈ l,∀ b R1,Ext P K R R1 -> RelOk P K R1 -> Sim P S K EqA (f x b) R1 (f' x b)) -> Sim P S K EqA (forIn l b f) R (forIn l b f')
 | [],b,R,hR,hf => by simp only [List.forIn_nil]; exact Sim.ret rfl
 | x :: l,b,R,hR,hf => by
  simp only [List.forIn_cons]
  refine Sim.bnd (hf x (by simp) b R (.refl R) hR) ?_
  rintro R1 h1 s _ rfl
  cases s with
  | done b => exact Sim.ret rfl
  | yield b => exact sim_forIn l b (h1.ok hR) λ y hy b R2 h2 h3 => hf y (by simp [hy]) b R2 (h1.trans h2) h3
structure StrOk (P : Pair) (t : TypeId) : Prop where
 ex : ∃ fields,P.underlying t = some (.struct fields) /\ ∀ f ∈ fields,KeyOk P f.type
 held : P.c.stoodInHeld t = false
theorem alike_g (P : Pair) : ∀ (n : Nat),P.g.alikeButTags n = P.c.alikeButTags n
 | 0 => rfl
 | n + 1 => by
  funext t u
  unfold Program.alikeButTags
  rw [alike_g P n]
theorem stoodInHeld_g (P : Pair) (t : TypeId) : P.g.stoodInHeld t = P.c.stoodInHeld t:=by
 unfold Program.stoodInHeld Program.stoodInAs
 rw [alike_g P P.g.depth]
 rfl
theorem sim_equalS {t : TypeId} (ht : StrOk P t) (hR : RelOk P K R) {xs xs' ys ys' : Array Value} (hx : ArR S K R xs xs') (hy : ArR S K R ys ys') : Sim P S K EqA (Op.equal t (.agg xs) (.agg ys)) R (Op.equal t (.agg xs') (.agg ys')):=by
 obtain ⟨fields,hd,hf⟩:=ht.ex
 have e : ∀ a b,Op.equal t a b = Op.equalIn (9999 + 1) t a b:=λ a b => rfl
 rw [e,e]
 unfold Op.equalIn
 refine Sim.bnd (sim_underlying t) ?_
 rintro R1 h1 d _ ⟨rfl,hd'⟩
 obtain rfl : d = .struct fields:=Option.some.inj (hd'.symm.trans hd)
 simp only
 refine Sim.bnd sim_program ?_
 rintro R2 h2 p q ⟨rfl,rfl⟩
 rw [stoodInHeld_g,ht.held]
 simp only [Bool.false_eq_true,if_false]
 have hR2:=h2.ok (h1.ok hR)
 have hx2 : ArR S K R2 xs xs':=(hx.mono h1.le).mono h2.le
 have hy2 : ArR S K R2 ys ys':=(hy.mono h1.le).mono h2.le
 rw [<- Array.forIn_toList,<- Array.forIn_toList]
 refine Sim.bnd (sim_forIn fields.toList _ hR2 λ f hfm b R3 h3 hR3 => ?_) ?_
 ·by_cases hn : f.name ≠ "_"
  ·simp only [hn,ne_eq,not_false_eq_true,if_true]
   refine Sim.bnd (sim_part f.type (hx2.mono h3.le) f.offset) λ R4 h4 u u' hu => ?_
   refine Sim.bnd (sim_part f.type ((hy2.mono h3.le).mono h4.le) f.offset) λ R5 h5 v v' hv => ?_
   obtain ⟨d',hd1,ok⟩:=(hf f (by simpa using hfm)).ex
   refine Sim.bnd (sim_equalIn 9998 f.type d' hd1 ok (λ k e => (hf f (by simpa using hfm)).nc k (e ▸ hd1)) (h5.ok (h4.ok hR3)) (hu.mono h5.le) hv) ?_
   rintro R6 h6 c _ rfl
   cases c
   ·exact Sim.ret rfl
   ·exact Sim.ret rfl
  ·simp only [hn,if_false]
   exact Sim.ret rfl
 ·rintro R3 h3 s _ rfl
  obtain ⟨a,b⟩:=s
  cases a with
  | none => exact Sim.ret rfl
  | some c => exact Sim.ret rfl
theorem never_equalS {t : TypeId} (ht : StrOk P t) {x y : Value} (h : ¬ ((∃ xs,x = .agg xs) /\ ∃ ys,y = .agg ys)) : Never P (Op.equal t x y):=by
 obtain ⟨fields,hd,hf⟩:=ht.ex
 have e : Op.equal t x y = Op.equalIn (9999 + 1) t x y:=rfl
 rw [e]
 unfold Op.equalIn
 have hu : ∀ w,(underlying t).run P.g w = .ok (.struct fields) w:=λ w => by
  have : P.g.underlying t = some (.struct fields):=hd
  simp [underlying,program,Sem.run,bind,Sem.bind,pure,this]
 have key : ∀ {f : TypeDesc -> Sem Bool},Never P (f (.struct fields)) -> Never P (underlying t >>= f):=λ {f} hf w hw => by
  obtain ⟨h1,w1,h2,h3⟩:=hf w hw
  refine ⟨h1,w1,?_,h3⟩
  have:=Sem.run_bind' P.g (underlying t) f w
  rw [hu] at this
  exact this.trans h2
 refine key ?_
 cases x <;> cases y <;> first
  | exact (h ⟨⟨_,rfl⟩,⟨_,rfl⟩⟩).elim
  | exact never_stuck
end
end Go.Tt
namespace Go.Tt
open Go.Conc
inductive CW where
 | buffer
 | closed
 | shut
 deriving DecidableEq
def wayS (c : CommCase) : Sem (Option CW):=
 match c.chan with
 | .chan none => pure none
 | .chan (some r) => do
  match <- getObj r with
  | .chan cap buf closed _ _ _ =>
   match c.send with
   | some _ => pure (if closed then some .shut else if buf.size < cap then some .buffer else none)
   | none => pure (if 0 < buf.size then some .buffer else if closed then some .closed else none)
  | _ => stuck ""
 | _ => stuck ""
def readyS : Nat -> List CommCase -> Sem (List (Nat × CommCase × CW))
 | _,[] => pure []
 | k,c :: cs => do
  let w <- wayS c
  let rs <- readyS (k + 1) cs
  pure (match w with | some x => (k,c,x) :: rs | none => rs)
def actS (cases : Array CommCase) (shape : CommShape) (k : Nat) (c : CommCase) : CW -> Sem Value
 | .shut => stuck ""
 | .closed => pure (commResult cases shape k c.zero false)
 | .buffer =>
  match c.chan with
  | .chan (some r) => do
   match <- getObj r with
   | .chan cap buf closed sent rcvd tm =>
    match c.send with
    | some v => do
     setObj r (.chan cap (buf.push v) closed (sent + 1) rcvd tm)
     pure (commResult cases shape k undef false)
    | none => do
     setObj r (.chan cap (buf.extract 1 buf.size) closed sent (rcvd + 1) tm)
     pure (commResult cases shape k (buf.getD 0 undef) true)
   | _ => stuck ""
  | _ => stuck ""
def commS (cases : Array CommCase) (shape : CommShape) : Sem Value:=do
 let rs <- readyS 0 cases.toList
 if rs.isEmpty then pure (commResult cases shape (-1) undef false) else do
  let a <- choose (.select rs.length)
  match rs[a]? with
  | some x => actS cases shape x.1 x.2.1 x.2.2
  | none => stuck ""
section
variable {P : Pair} {S : FuncId -> Prop} {K R R' : Pr}
inductive CcR (S : FuncId -> Prop) (K R : Pr) : CommCase -> CommCase -> Prop
 | mk {a a' z z' : Value} {s s' : Option Value} : VR S K R a a' -> OvR S K R s s' -> VR S K R z z' -> CcR S K R ⟨a,s,z⟩ ⟨a',s',z'⟩
inductive CsR (S : FuncId -> Prop) (K R : Pr) : List CommCase -> List CommCase -> Prop
 | nil : CsR S K R [] []
 | cons {c c' : CommCase} {cs cs' : List CommCase} : CcR S K R c c' -> CsR S K R cs cs' -> CsR S K R (c :: cs) (c' :: cs')
inductive RdR (S : FuncId -> Prop) (K R : Pr) : List (Nat × CommCase × CW) -> List (Nat × CommCase × CW) -> Prop
 | nil : RdR S K R [] []
 | cons {k : Nat} {x : CW} {c c' : CommCase} {cs cs' : List (Nat × CommCase × CW)} : CcR S K R c c' -> RdR S K R cs cs' -> RdR S K R ((k,c,x) :: cs) ((k,c',x) :: cs')
theorem CcR.mono (h : R.le R') {c c' : CommCase} (x : CcR S K R c c') : CcR S K R' c c':=by cases x with | mk a b c => exact .mk (a.mono h) (b.mono h) (c.mono h)
theorem CsR.mono (h : R.le R') {c c' : List CommCase} (x : CsR S K R c c') : CsR S K R' c c':=by
 induction x with
 | nil => exact .nil
 | cons a _ ih => exact .cons (a.mono h) ih
theorem RdR.len {c c' : List (Nat × CommCase × CW)} (x : RdR S K R c c') : c.length = c'.length:=by
 induction x with
 | nil => rfl
 | cons a _ ih => simp [ih]
theorem RdR.mono (h : R.le R') {c c' : List (Nat × CommCase × CW)} (x : RdR S K R c c') : RdR S K R' c c':=by
 induction x with
 | nil => exact .nil
 | cons a _ ih => exact .cons (a.mono h) ih
theorem RdR.get {c c' : List (Nat × CommCase × CW)} (x : RdR S K R c c') : ∀ a : Nat,(c[a]? = none /\ c'[a]? = none) \/ ∃ k w d d',c[a]? = some (k,d,w) /\ c'[a]? = some (k,d',w) /\ CcR S K R d d':=by
 induction x with
 | nil => intro a; exact .inl ⟨by simp,by simp⟩
 | cons h _ ih =>
  intro a
  cases a with
  | zero => exact .inr ⟨_,_,_,_,rfl,rfl,h⟩
  | succ a => simpa using ih a
theorem sim_wayS {c c' : CommCase} (h : CcR S K R c c') : Sim P S K EqA (wayS c) R (wayS c'):=by
 cases h with
 | mk ha hs hz =>
  unfold wayS
  simp only
  cases ha with
  | chan ho =>
   cases ho with
   | none => exact Sim.ret rfl
   | some hr =>
    refine Sim.bnd (sim_getObjK hr) λ R1 h1 o o' hob => ?_
    cases hob with
    | chan hb =>
     cases hs with
     | none => simp only [hb.1]; exact Sim.ret rfl
     | some _ => simp only [hb.1]; exact Sim.ret rfl
    | _ => exact .inl never_stuck
  | junk hh => exact .inl never_stuck
  | _ => exact .inl never_stuck
theorem sim_readyS : ∀ (k : Nat) {cs cs' : List CommCase} {R : Pr},CsR S K R cs cs' -> Sim P S K (λ R a b => RdR S K R a b) (readyS k cs) R (readyS k cs'):=by
 intro k cs
 induction cs generalizing k with
 | nil => intro cs' R h; cases h; exact Sim.ret .nil
 | cons c cs ih =>
  intro cs' R h
  cases h with
  | cons hc hcs =>
   unfold readyS
   refine Sim.bnd (sim_wayS hc) ?_
   rintro R1 h1 w _ rfl
   refine Sim.bnd (ih (k + 1) (hcs.mono h1.le)) λ R2 h2 rs rs' hrs => ?_
   cases w with
   | none => exact Sim.ret hrs
   | some x => exact Sim.ret (.cons (hc.mono (h1.trans h2).le) hrs)
theorem lsR_recvs {v v' : Value} {R : Pr} (hv : VR S K R v v') (n : Int) : ∀ {cs cs' : List CommCase} (j : Nat),CsR S K R cs cs' ->
  LsR S K R (((cs.zipIdx j).filter (·.1.send.isNone)).map λ (c,j) => if (j : Int) = n then v else c.zero) (((cs'.zipIdx j).filter (·.1.send.isNone)).map λ (c,j) => if (j : Int) = n then v' else c.zero):=by
 intro cs
 induction cs with
 | nil => intro cs' j h; cases h; exact ⟨rfl,λ i a b h1 => by simp at h1⟩
 | cons c cs ih =>
  intro cs' j h
  cases h with
  | cons hc hcs =>
   have hi:=ih (j + 1) hcs
   cases hc with
   | mk ha hs hz =>
    cases hs with
    | some _ => simpa using hi
    | none =>
     simp only [List.zipIdx_cons,List.filter_cons,Option.isNone_none,if_true,List.map_cons]
     refine ⟨by simp [hi.1],λ i a b h1 h2 => ?_⟩
     cases i with
     | zero =>
      simp only [List.getElem?_cons_zero,Option.some.injEq] at h1 h2
      subst h1 h2
      split
      ·exact hv
      ·exact hz
     | succ i =>
      simp only [List.getElem?_cons_succ] at h1 h2
      exact hi.2 i a b h1 h2
theorem vr_commResult {cases' cases : Array CommCase} (hc : CsR S K R cases.toList cases'.toList) (shape : CommShape) (k : Int) (ok : Bool) {v v' : Value} (hv : VR S K R v v') : VR S K R (commResult cases shape k v ok) (commResult cases' shape k v' ok):=by
 cases shape with
 | send => exact .tuple rfl (λ i v v' h => by simp at h)
 | recv b =>
  cases b with
  | false => exact hv
  | true =>
   refine .tuple' ⟨rfl,λ i a b h1 h2 => ?_⟩
   match i with
   | 0 => simp at h1 h2; subst h1 h2; exact hv
   | 1 => simp at h1 h2; subst h1 h2; exact .bool _
   | i + 2 => simp at h1
 | select =>
  refine .tuple' ?_
  have hl:=lsR_recvs hv k 0 hc
  have e : ∀ (cs : Array CommCase) (u : Value),((cs.zipIdx.filter (·.1.send.isNone)).map λ (c,j) => if (j : Int) = k then u else c.zero) = ((((cs.toList.zipIdx 0).filter (·.1.send.isNone)).map λ (c,j) => if (j : Int) = k then u else c.zero)).toArray:=by
   intro cs u
   apply Array.ext'
   simp [Array.toList_zipIdx]
  rw [e,e]
  refine ArR.append ⟨rfl,λ i a b h1 h2 => ?_⟩ ⟨by simpa using hl.1,λ i a b h1 h2 => hl.2 i a b (by simpa using h1) (by simpa using h2)⟩
  match i with
  | 0 => simp at h1 h2; subst h1 h2; exact .int _ _
  | 1 => simp at h1 h2; subst h1 h2; exact .bool _
  | i + 2 => simp at h1
theorem vr_undef0 : VR S K R undef undef:=.tuple rfl (λ i v v' h => by simp at h)
theorem sim_actS {cases' cases : Array CommCase} {shape : CommShape} {k : Nat} {x : CW} {c c' : CommCase} (hcs : CsR S K R cases.toList cases'.toList) (h : CcR S K R c c') : Sim P S K (VA S K) (actS cases shape k c x) R (actS cases' shape k c' x):=by
 cases x with
 | shut => exact .inl never_stuck
 | closed =>
  cases h with
  | mk ha hs hz => exact Sim.ret (vr_commResult hcs shape k false hz)
 | buffer =>
  cases h with
  | mk ha hs hz =>
   unfold actS
   simp only
   cases ha with
   | chan ho =>
    cases ho with
    | none => exact .inl never_stuck
    | some hr =>
     refine Sim.bnd (sim_getObjK hr) λ R1 h1 o o' hob => ?_
     cases hob with
     | chan hb =>
      have hr1 : (R1.or K) _ _:=hr.imp (h1.le _ _) id
      cases hs with
      | none =>
       refine Sim.bnd (sim_setObjK hr1 (by rw [<- hb.1]; exact .chan (hb.extract 1 _))) λ R2 h2 _ _ _ => ?_
       exact Sim.ret (vr_commResult (hcs.mono (h1.trans h2).le) shape k true ((hb.mono h2.le).getD 0 vr_undef0))
      | some hv =>
       refine Sim.bnd (sim_setObjK hr1 (.chan (hb.push (hv.mono h1.le)))) λ R2 h2 _ _ _ => ?_
       exact Sim.ret (vr_commResult (hcs.mono (h1.trans h2).le) shape k false vr_undef0)
     | _ => exact .inl never_stuck
   | junk hh => exact .inl never_stuck
   | _ => exact .inl never_stuck
theorem sim_commS {cases' cases : Array CommCase} (shape : CommShape) (h : CsR S K R cases.toList cases'.toList) : Sim P S K (VA S K) (commS cases shape) R (commS cases' shape):=by
 unfold commS
 refine Sim.bnd (sim_readyS 0 h) λ R1 h1 rs rs' hrs => ?_
 have hl:=hrs.len
 have he : rs.isEmpty = rs'.isEmpty:=by cases hrs <;> rfl
 rw [he,hl]
 split
 ·exact Sim.ret (vr_commResult (h.mono h1.le) shape _ false vr_undef0)
 ·refine Sim.bnd (sim_choose _) ?_
  rintro R2 h2 a _ rfl
  rcases (hrs.mono h2.le).get a with ⟨e1,e2⟩ | ⟨k,w,d,d',e1,e2,hd⟩
  ·rw [e1,e2]; exact .inl never_stuck
  ·rw [e1,e2]
   exact sim_actS (h.mono (h1.trans h2).le) hd
end
end Go.Tt
namespace Go.Tt
open Go.Conc
def CommAct (B : Nat) : MemAct -> Prop
 | .send c _ | .sendDone c _ | .recv c _ _ | .recvDone c _ | .recvClosed c => c < B
 | _ => False
def CW.way : CW -> Way
 | .buffer => .buffer
 | .closed => .closed
 | .shut => .sendClosed
def waysOf : Option CW -> List Way
 | some y => [y.way]
 | none => []
def NoPartner (gs : Array Goroutine) (cs : List CommCase) : Prop:=∀ c ∈ cs,∀ r,c.chan = .chan (some r) -> ∀ b,partners gs r b = []
def isChanAt (w : World) (r : Nat) : Prop:=∃ cap buf closed s rc tm,w.heap[r]? = some (.chan cap buf closed s rc tm)
def caseOk (w : World) (c : CommCase) : Prop:=c.chan = .chan none \/ ∃ r,c.chan = .chan (some r) /\ isChanAt w r
section
variable {p : Program} {w w' : World} {gs : Array Goroutine}
theorem getObj_ok {r : Nat} {o : Obj} (h : (getObj r).run p w = .ok o w') : w' = w /\ w.heap[r]? = some o:=by
 simp only [getObj,Sem.run] at h
 cases ho : w.heap[r]? with
 | none => rw [ho] at h; cases h
 | some ob =>
  rw [ho] at h
  cases ob <;> simp only [Result.ok.injEq,reduceCtorEq] at h <;> (obtain ⟨rfl,rfl⟩:=h; exact ⟨rfl,rfl⟩)
theorem bind_ok {α β : Type} {s : Sem α} {f : α -> Sem β} {b : β} (h : (s >>= f).run p w = .ok b w') : ∃ a w1,s.run p w = .ok a w1 /\ (f a).run p w1 = .ok b w':=by
 have h2:=(Sem.run_bind' p s f w).symm.trans h
 cases hx : s.run p w with
 | halt y w1 => rw [hx] at h2; cases h2
 | ok a w1 => rw [hx] at h2; exact ⟨a,w1,rfl,h2⟩
theorem setObj_ok {r : Nat} {o : Obj} {u : Unit} (h : (setObj r o).run p w = .ok u w') : w' = { w with heap:=w.heap.setIfInBounds r o }:=by
 simp only [setObj,Sem.run] at h
 cases ho : w.heap[r]? with
 | none => rw [ho] at h; cases h
 | some ob =>
  rw [ho] at h
  cases ob <;> simp only [Result.ok.injEq,reduceCtorEq,true_and] at h <;> exact h.symm
theorem wayS_run {c : CommCase} {x : Option CW} (h : (wayS c).run p w = .ok x w') (hp : ∀ r,c.chan = .chan (some r) -> ∀ b,partners gs r b = []) :
  w' = w /\ caseOk w c /\ ways w gs c = waysOf x /\ ∀ y,x = some y -> ∃ r,c.chan = .chan (some r) /\ isChanAt w r:=by
 obtain ⟨ch,sd,z⟩:=c
 unfold wayS at h
 simp only at h hp
 cases ch with
 | chan o =>
  cases o with
  | none =>
   simp only [Pure.pure,Sem.run,Result.ok.injEq] at h
   obtain ⟨rfl,rfl⟩:=h
   exact ⟨rfl,.inl rfl,rfl,λ y e => by cases e⟩
  | some r =>
   obtain ⟨ob,w1,h0,h2⟩:=bind_ok h
   obtain ⟨rfl,ho⟩:=getObj_ok h0
   clear h h0
   cases ob with
   | chan cap buf closed s rc tm =>
    have e1:=hp r rfl true
    have e2:=hp r rfl false
    cases sd with
    | none =>
     simp only [Pure.pure,Sem.run,Result.ok.injEq] at h2
     obtain ⟨rfl,rfl⟩:=h2
     refine ⟨rfl,.inr ⟨r,rfl,_,_,_,_,_,_,ho⟩,?_,λ y _ => ⟨r,rfl,_,_,_,_,_,_,ho⟩⟩
     simp only [ways,ho,e1]
     by_cases hb : 0 < buf.size
     ·simp [hb,CW.way,waysOf]
     ·cases closed <;> simp [hb,CW.way,waysOf]
    | some v =>
     simp only [Pure.pure,Sem.run,Result.ok.injEq] at h2
     obtain ⟨rfl,rfl⟩:=h2
     refine ⟨rfl,.inr ⟨r,rfl,_,_,_,_,_,_,ho⟩,?_,λ y _ => ⟨r,rfl,_,_,_,_,_,_,ho⟩⟩
     simp only [ways,ho,e2]
     cases closed
     ·by_cases hb : buf.size < cap <;> simp [hb,CW.way,waysOf]
     ·simp [CW.way,waysOf]
   | _ => simp [stuck,Sem.run] at h2
 | _ => simp [stuck,Sem.run] at h
theorem readyS_run : ∀ {cs : List CommCase} {k : Nat} {rs : List (Nat × CommCase × CW)},(readyS k cs).run p w = .ok rs w' -> NoPartner gs cs ->
  w' = w /\ (∀ c,c ∈ cs -> caseOk w c) /\ (((cs.zipIdx k).map λ (c,j) => (j,c,ways w gs c)).filter λ (_,_,ws) => !ws.isEmpty) = (rs.map λ x => (x.1,x.2.1,[x.2.2.way])) /\ ∀ x,x ∈ rs -> ∃ r,x.2.1.chan = .chan (some r) /\ isChanAt w r:=by
 intro cs
 induction cs with
 | nil =>
  intro k rs h _
  simp only [readyS,Pure.pure,Sem.run,Result.ok.injEq] at h
  obtain ⟨rfl,rfl⟩:=h
  exact ⟨rfl,λ c hc => by simp at hc,rfl,λ x hx => by cases hx⟩
 | cons c cs ih =>
  intro k rs h hp
  unfold readyS at h
  have h2:=(Sem.run_bind' p (wayS c) _ w).symm.trans h
  cases hx : (wayS c).run p w with
  | halt y w1 => rw [hx] at h2; cases h2
  | ok x w1 =>
   rw [hx] at h2
   simp only [Result.andThen] at h2
   obtain ⟨rfl,h3,h4,h4'⟩:=wayS_run hx (hp c (by simp))
   have h5:=(Sem.run_bind' p (readyS (k + 1) cs) _ w1).symm.trans h2
   cases hy : (readyS (k + 1) cs).run p w1 with
   | halt y w2 => rw [hy] at h5; cases h5
   | ok ys w2 =>
    rw [hy] at h5
    simp only [Result.andThen,Pure.pure,Sem.run,Result.ok.injEq] at h5
    obtain ⟨h5,h5'⟩:=h5
    subst h5'
    obtain ⟨h8,h6,h7,h9⟩:=ih hy λ c hc => hp c (by simp [hc])
    subst h8 h5
    refine ⟨rfl,λ d hd => (List.mem_cons.1 hd).elim (λ e => e ▸ h3) (h6 d),?_,λ z hz => ?_⟩
    rotate_left
    ·cases x with
     | none => exact h9 z hz
     | some y =>
      rcases List.mem_cons.1 hz with rfl | hz
      ·exact h4' y rfl
      ·exact h9 z hz
    simp only [List.zipIdx_cons,List.map_cons,List.filter_cons,h4]
    cases x with
    | none => simp only [waysOf]; simpa using h7
    | some y => simp only [waysOf]; simpa using h7
theorem communicate_own {rest : Rest} {i : Nat} {g : Goroutine} {cases : Array CommCase} {shape : CommShape} {v : Value} (hp : NoPartner gs cases.toList) (h : (commS cases shape).run p w = .ok v w') :
  ∃ ops,communicate p rest gs i g cases false shape w = (.next { world:=w',gs:=gs.setIfInBounds i { g with frame:=g.frame.finish v,status:=.running,offers:=none },rest },ops) /\
   ∀ op ∈ ops,op.g = i /\ CommAct w.heap.size op.act:=by
 unfold commS at h
 have h2:=(Sem.run_bind' p (readyS 0 cases.toList) _ w).symm.trans h
 cases hx : (readyS 0 cases.toList).run p w with
 | halt y w1 => rw [hx] at h2; cases h2
 | ok rs w1 =>
  rw [hx] at h2
  simp only [Result.andThen] at h2
  obtain ⟨rfl,hok,hready,hrd⟩:=readyS_run hx hp
  have hz : (cases.zipIdx.toList.map λ (c,k) => (k,c,ways w1 gs c)) = ((cases.toList.zipIdx 0).map λ (c,j) => (j,c,ways w1 gs c)):=by
   rw [Array.toList_zipIdx]
  unfold communicate
  simp only []
  rw [if_neg (by
   rw [Bool.not_eq_true,Array.any_eq_false]
   intro j hj
   rcases hok cases[j] (by simp) with h | ⟨r,h,cap,buf,closed,s,rc,tm,ho⟩
   ·simp [h]
   ·simp [h,ho])]
  rw [hz,hready]
  cases rs with
  | nil =>
   simp only [List.isEmpty_nil,if_true,Pure.pure,Sem.run,Result.ok.injEq] at h2
   obtain ⟨rfl,rfl⟩:=h2
   exact ⟨#[],rfl,λ op ho => by simp at ho⟩
  | cons x xs =>
   simp only [List.isEmpty_cons,Bool.false_eq_true,if_false] at h2
   obtain ⟨a,w2,hc,h3⟩:=bind_ok h2
   cases hg : (x :: xs)[a]? with
   | none => rw [hg] at h3; simp [stuck,Sem.run] at h3
   | some y =>
    rw [hg] at h3
    simp only at h3
    obtain ⟨k,c,y⟩:=y
    simp only at h3
    have hcm : (k,c,y) ∈ x :: xs:=List.mem_of_getElem? hg
    obtain ⟨L,hL⟩ : ∃ L,L = (x :: xs).map λ x => (x.1,x.2.1,[x.2.2.way]):=⟨_,rfl⟩
    have hlen : L.length = (x :: xs).length:=by rw [hL]; simp
    have hemp : L.isEmpty = false:=by rw [hL]; rfl
    have hget : L.getD a (0,default,[]) = (k,c,[y.way]):=by
     rw [List.getD_eq_getElem?_getD,hL,List.getElem?_map,hg]; rfl
    rw [<- hL]
    have hpick : (do
      let a <- choose (.select L.length)
      let b <- choose (.extern "which waiting goroutine is the partner" (L.getD a (0,default,[])).2.2.length)
      pure ((L.getD a (0,default,[])).1,(L.getD a (0,default,[])).2.1,(L.getD a (0,default,[])).2.2.getD b .closed) : Sem (Nat × CommCase × Way)).run p w1 = .ok (k,c,y.way) w2:=by
     rw [hlen]
     refine (Sem.run_bind' p _ _ w1).trans ?_
     rw [hc]
     simp only [Result.andThen,hget]
     refine (Sem.run_bind' p _ _ w2).trans ?_
     simp [choose,Sem.run,Question.forced,Result.andThen,pure]
    simp only [hemp,Bool.false_eq_true,if_false]
    rw [hpick]
    simp only
    have hw2 : w2.heap = w1.heap:=by
     simp only [choose,Sem.run] at hc
     split at hc <;> (injection hc with _ e; rw [<- e])
    obtain ⟨r,hcr,cap,buf,closed,sn,rc,tm,hob⟩:=hrd (k,c,y) hcm
    simp only at hcr
    have hrl : r < w1.heap.size:=(Array.getElem?_eq_some_iff.1 hob).1
    have hcc : c ∈ cases.toList:=by
     have hmem : (k,c,[y.way]) ∈ (x :: xs).map λ x => (x.1,x.2.1,[x.2.2.way]):=List.mem_map.2 ⟨(k,c,y),hcm,rfl⟩
     rw [<- hready] at hmem
     obtain ⟨z,hz1,hz2⟩:=List.mem_map.1 (List.mem_filter.1 hmem).1
     simp only [Prod.mk.injEq] at hz2
     rw [<- hz2.2.1]
     exact List.fst_mem_of_mem_zipIdx hz1
    have hob2 : w2.heap[r]? = some (.chan cap buf closed sn rc tm):=by rw [hw2]; exact hob
    cases y with
    | shut => simp [actS,stuck,Sem.run] at h3
    | closed =>
     simp only [actS,Pure.pure,Sem.run,Result.ok.injEq] at h3
     obtain ⟨rfl,rfl⟩:=h3
     simp only [CW.way,hcr,hob2]
     refine ⟨_,rfl,λ op ho => ?_⟩
     simp only [List.mem_toArray,List.mem_cons,List.not_mem_nil,or_false] at ho
     subst ho
     exact ⟨rfl,hrl⟩
    | buffer =>
     obtain ⟨ch,sd,z⟩:=c
     simp only at hcr
     subst hcr
     simp only [actS] at h3
     obtain ⟨ob,w3,h4,h5⟩:=bind_ok h3
     obtain ⟨rfl,h6⟩:=getObj_ok h4
     rw [hob2] at h6
     obtain rfl:=Option.some.inj h6
     simp only [CW.way,hob2]
     have hpr:=hp _ hcc r rfl true
     cases sd with
     | some u =>
      obtain ⟨_,w4,h7,h8⟩:=bind_ok h5
      have h9:=setObj_ok h7
      simp only [Pure.pure,Sem.run,Result.ok.injEq] at h8
      obtain ⟨rfl,rfl⟩:=h8
      subst h9
      refine ⟨_,rfl,λ op ho => ?_⟩
      simp only [List.mem_toArray,List.mem_cons,List.not_mem_nil,or_false] at ho
      rcases ho with rfl | rfl <;> exact ⟨rfl,hrl⟩
     | none =>
      obtain ⟨_,w4,h7,h8⟩:=bind_ok h5
      have h9:=setObj_ok h7
      simp only [Pure.pure,Sem.run,Result.ok.injEq] at h8
      obtain ⟨rfl,rfl⟩:=h8
      subst h9
      simp only [hpr]
      refine ⟨_,rfl,λ op ho => ?_⟩
      simp only [List.mem_toArray,List.mem_cons,List.not_mem_nil,or_false] at ho
      rcases ho with rfl | rfl <;> exact ⟨rfl,hrl⟩
theorem bind_halt {α β : Type} {s : Sem α} {f : α -> Sem β} {y : Halt} (h : (s >>= f).run p w = .halt y w') : s.run p w = .halt y w' \/ ∃ a w1,s.run p w = .ok a w1 /\ (f a).run p w1 = .halt y w':=by
 have h2:=(Sem.run_bind' p s f w).symm.trans h
 cases hx : s.run p w with
 | halt z w1 =>
  rw [hx] at h2
  simp only [Result.andThen,Result.halt.injEq] at h2
  obtain ⟨rfl,rfl⟩:=h2
  exact .inl rfl
 | ok a w1 => rw [hx] at h2; exact .inr ⟨a,w1,rfl,h2⟩
theorem wayS_halt {c : CommCase} {y : Halt} (h : (wayS c).run p w = .halt y w') : ¬ caseOk w c:=by
 rintro (h1 | ⟨r,h1,cap,buf,closed,s,rc,tm,ho⟩)
 ·obtain ⟨ch,sd,z⟩:=c
  simp only at h1
  subst h1
  simp [wayS,Pure.pure,Sem.run] at h
 ·obtain ⟨ch,sd,z⟩:=c
  simp only at h1
  subst h1
  simp only [wayS] at h
  have hgo : (getObj r).run p w = .ok (.chan cap buf closed s rc tm) w:=by simp [getObj,Sem.run,ho]
  rcases bind_halt h with h | ⟨o,w1,h1,h2⟩
  ·rw [hgo] at h; cases h
  ·rw [hgo] at h1
   injection h1 with e1 e2
   subst e1 e2
   cases sd <;> simp [Pure.pure,Sem.run] at h2
theorem readyS_halt : ∀ {cs : List CommCase} {k : Nat} {y : Halt},(readyS k cs).run p w = .halt y w' -> ∃ c,c ∈ cs /\ ¬ caseOk w c:=by
 intro cs
 induction cs with
 | nil => intro k y h; simp [readyS,Pure.pure,Sem.run] at h
 | cons c cs ih =>
  intro k y h
  unfold readyS at h
  rcases bind_halt h with h | ⟨x,w1,h1,h2⟩
  ·exact ⟨c,by simp,wayS_halt h⟩
  ·obtain ⟨rfl,_⟩:=wayS_run (gs:=#[]) h1 (λ r _ b => rfl)
   rcases bind_halt h2 with h2 | ⟨ys,w2,_,h3⟩
   ·obtain ⟨d,hd,e⟩:=ih h2
    exact ⟨d,by simp [hd],e⟩
   ·simp [Pure.pure,Sem.run] at h3
theorem choose_ok (q : Question) (w : World) : ∃ a w1,(choose q).run p w = .ok a w1:=by
 simp only [choose,Sem.run]
 split <;> exact ⟨_,_,rfl⟩
theorem choose_select {n a : Nat} {w1 : World} (hn : 0 < n) (h : (choose (.select n)).run p w = .ok a w1) : a < n /\ w1.heap = w.heap:=by
 simp only [choose,Sem.run] at h
 split at h
 ·injection h with h1 h2
  subst h1 h2
  exact ⟨hn,rfl⟩
 ·injection h with h1 h2
  subst h1 h2
  exact ⟨Nat.mod_lt _ hn,rfl⟩
theorem communicate_bad {rest : Rest} {i : Nat} {g : Goroutine} {cases : Array CommCase} {shape : CommShape} {y : Halt} (hp : NoPartner gs cases.toList) (h : (commS cases shape).run p w = .halt y w') :
  (∃ o w1 ops,communicate p rest gs i g cases false shape w = (.ended o w1,ops)) \/ ∃ vs w1 ops,communicate p rest gs i g cases false shape w = (.next { world:=w1,gs:=gs.setIfInBounds i { g with frame:=g.frame.raise vs },rest },ops):=by
 unfold commS at h
 rcases bind_halt h with h | ⟨rs,w1,hx,h2⟩
 ·left
  obtain ⟨c,hc,e⟩:=readyS_halt h
  unfold communicate
  simp only []
  rw [if_pos (by
   rw [Array.any_eq_true]
   obtain ⟨j,hj,rfl⟩:=List.mem_iff_getElem.1 hc
   refine ⟨j,by simpa using hj,?_⟩
   simp only [Array.getElem_toList] at e
   cases hch : cases[j].chan with
   | chan o =>
    cases o with
    | none => exact absurd (.inl hch) e
    | some r =>
     simp only
     cases ho : w.heap[r]? with
     | none => rfl
     | some ob =>
      cases ob with
      | chan cap buf closed s rc tm => exact absurd (.inr ⟨r,hch,_,_,_,_,_,_,ho⟩) e
      | _ => rfl
   | _ => rfl)]
  exact ⟨_,_,_,rfl⟩
 ·obtain ⟨rfl,hok,hready,hrd⟩:=readyS_run hx hp
  have hz : (cases.zipIdx.toList.map λ (c,k) => (k,c,ways w1 gs c)) = ((cases.toList.zipIdx 0).map λ (c,j) => (j,c,ways w1 gs c)):=by
   rw [Array.toList_zipIdx]
  unfold communicate
  simp only []
  rw [if_neg (by
   rw [Bool.not_eq_true,Array.any_eq_false]
   intro j hj
   rcases hok cases[j] (by simp) with h | ⟨r,h,cap,buf,closed,s,rc,tm,ho⟩
   ·simp [h]
   ·simp [h,ho])]
  rw [hz,hready]
  cases rs with
  | nil => simp [Pure.pure,Sem.run] at h2
  | cons x xs =>
   simp only [List.isEmpty_cons,Bool.false_eq_true,if_false] at h2
   obtain ⟨a,w2,hc⟩:=choose_ok (p:=p) (.select (x :: xs).length) w1
   obtain ⟨ha,hw2⟩:=choose_select (by simp) hc
   have h3 : (match (x :: xs)[a]? with | some x => actS cases shape x.1 x.2.1 x.2.2 | none => stuck "").run p w2 = .halt y w':=by
    rcases bind_halt h2 with h2 | ⟨a',w2',h4,h5⟩
    ·rw [hc] at h2; cases h2
    ·rw [hc] at h4
     injection h4 with e1 e2
     subst e1 e2
     exact h5
   cases hg : (x :: xs)[a]? with
   | none => rw [List.getElem?_eq_none_iff] at hg; omega
   | some z =>
    rw [hg] at h3
    simp only at h3
    obtain ⟨k,c,q⟩:=z
    simp only at h3
    have hcm : (k,c,q) ∈ x :: xs:=List.mem_of_getElem? hg
    obtain ⟨L,hL⟩ : ∃ L,L = (x :: xs).map λ x => (x.1,x.2.1,[x.2.2.way]):=⟨_,rfl⟩
    have hlen : L.length = (x :: xs).length:=by rw [hL]; simp
    have hemp : L.isEmpty = false:=by rw [hL]; rfl
    have hget : L.getD a (0,default,[]) = (k,c,[q.way]):=by
     rw [List.getD_eq_getElem?_getD,hL,List.getElem?_map,hg]; rfl
    rw [<- hL]
    have hpick : (do
      let a <- choose (.select L.length)
      let b <- choose (.extern "which waiting goroutine is the partner" (L.getD a (0,default,[])).2.2.length)
      pure ((L.getD a (0,default,[])).1,(L.getD a (0,default,[])).2.1,(L.getD a (0,default,[])).2.2.getD b .closed) : Sem (Nat × CommCase × Way)).run p w1 = .ok (k,c,q.way) w2:=by
     rw [hlen]
     refine (Sem.run_bind' p _ _ w1).trans ?_
     rw [hc]
     simp only [Result.andThen,hget]
     refine (Sem.run_bind' p _ _ w2).trans ?_
     simp [choose,Sem.run,Question.forced,Result.andThen,pure]
    simp only [hemp,Bool.false_eq_true,if_false]
    rw [hpick]
    simp only
    obtain ⟨r,hcr,cap,buf,closed,sn,rc,tm,hob⟩:=hrd (k,c,q) hcm
    simp only at hcr
    have hob2 : w2.heap[r]? = some (.chan cap buf closed sn rc tm):=by rw [hw2]; exact hob
    cases q with
    | closed => simp [actS,Pure.pure,Sem.run] at h3
    | shut =>
     simp only [CW.way]
     split
     ·exact .inr ⟨_,_,_,rfl⟩
     ·exact .inl ⟨_,_,_,rfl⟩
    | buffer =>
     exfalso
     obtain ⟨ch,sd,z⟩:=c
     simp only at hcr
     subst hcr
     simp only [actS] at h3
     have hgo : (getObj r).run p w2 = .ok (.chan cap buf closed sn rc tm) w2:=by simp [getObj,Sem.run,hob2]
     rcases bind_halt h3 with h3 | ⟨ob,w3,h4,h5⟩
     ·rw [hgo] at h3; cases h3
     ·rw [hgo] at h4
      injection h4 with e1 e2
      subst e1 e2
      have hso : ∀ o,(setObj r o).run p w2 = .ok () { w2 with heap:=w2.heap.setIfInBounds r o }:=λ o => by simp [setObj,Sem.run,hob2]
      cases sd with
      | none =>
       rcases bind_halt h5 with h5 | ⟨_,w4,h6,h7⟩
       ·rw [hso] at h5; cases h5
       ·simp [Pure.pure,Sem.run] at h7
      | some u =>
       rcases bind_halt h5 with h5 | ⟨_,w4,h6,h7⟩
       ·rw [hso] at h5; cases h5
       ·simp [Pure.pure,Sem.run] at h7
theorem noPartner_alone (cs : List CommCase) : NoPartner #[{ (default : Goroutine) with status:=.finished }] cs:=λ c _ r _ b => partners_alone b
theorem step_solo_comm {fr : Frame} {cs : List Frame} {cases : Array CommCase} {shape : CommShape} {v : Value} {w0 : World} {es : Array Event} (h : stepG p true (G fr cs) w0 = .comm (G fr cs) cases false shape w es) (hc : (commS cases shape).run p w = .ok v w') :
  step p (solo (G fr cs) w0) = .next (solo (G (fr.finish v) cs) w'):=by
 obtain ⟨ops,he,_⟩:=communicate_own (rest:={ timers:=#[],alone:=none,slice:=none }) (i:=0) (g:=G fr cs) (noPartner_alone cases.toList) hc
 rw [step,stepT_solo rfl]
 simp [runT,solo,G,Array.swapAt!,Array.swapAt,GStep.es] at h he ⊢
 simp [h,he]
theorem step_solo_bad {fr : Frame} {cs : List Frame} {cases : Array CommCase} {shape : CommShape} {y : Halt} {w0 : World} {es : Array Event} (h : stepG p true (G fr cs) w0 = .comm (G fr cs) cases false shape w es) (hc : (commS cases shape).run p w = .halt y w') :
  (∃ o w1,step p (solo (G fr cs) w0) = .ended o w1) \/ ∃ vs w1,step p (solo (G fr cs) w0) = .next (solo (G (fr.raise vs) cs) w1):=by
 rcases communicate_bad (rest:={ timers:=#[],alone:=none,slice:=none }) (i:=0) (g:=G fr cs) (noPartner_alone cases.toList) hc with ⟨o,w1,ops,he⟩ | ⟨vs,w1,ops,he⟩
 ·left
  refine ⟨o,w1,?_⟩
  rw [step,stepT_solo rfl]
  simp [runT,solo,G,Array.swapAt!,Array.swapAt,GStep.es] at h he ⊢
  simp [h,he]
 ·right
  refine ⟨vs,w1,?_⟩
  rw [step,stepT_solo rfl]
  simp [runT,solo,G,Array.swapAt!,Array.swapAt,GStep.es] at h he ⊢
  simp [h,he]
end
end Go.Tt
namespace Go.Tt
def keyOk (p : Program) (t : TypeId) : Bool:=
 match p.underlying t with
 | some (.int _) => (match p.info? t with | some i => (match i.desc with | .named "sync.copyChecker" _ => false | _ => true) | none => true)
 | some d => eqOk d
 | none => false
def strOk (p : Program) (t : TypeId) : Bool:=
 match p.underlying t with
 | some (.struct fs) => (fs.all λ f => keyOk p f.type) && !p.stoodInHeld t
 | _ => false
def okConst : Value -> Bool
 | .bool _ | .int _ _ | .string _ | .nilFunc | .nilIface | .pointer none | .slice none _ _ | .map none | .chan none => true
 | _ => false
def mapOk (p : Program) (t : TypeId) : Bool:=match p.underlying t with | some (.map k _) => keyOk p k | _ => true
def isIntT (p : Program) (t : TypeId) : Bool:=match p.underlying t with | some (.int _) => true | _ => false
def okX (fs : FuncId -> Bool) : Operand -> Bool
 | .tmp _ => true
 | .const v => okConst v
 | .global _ => false
 | .func f => fs f
def okTab (p : Program) : Operand -> Bool
 | .global g => tabOk p g
 | _ => false
structure Cl where
 fs : FuncId -> Bool
 gs : FuncId -> Bool
 dy : Bool
abbrev Cl.T (c : Cl) (f : FuncId) : Prop:=c.gs f = true
def isU8S (p : Program) (t : TypeId) : Bool:=match p.underlying t with | some (.slice e) => (match p.underlying e with | some (.int .u8) => true | _ => false) | _ => false
def isStrT (p : Program) (t : TypeId) : Bool:=match p.underlying t with | some .string => true | _ => false
def notIntT (p : Program) (o : Option TypeId) : Bool:=match o with | some t => (match p.underlying t with | some (.int _) => false | _ => true) | none => true
def okCall (c : Cl) : Operand -> Bool
 | .func g => c.gs g
 | x => okX c.fs x && c.dy
def okOp (p : Program) (c : Cl) : Op -> Bool
 | .move x | .assign x | .nilCheck x => okX c.fs x
 | .pick q a b => okX c.fs q && okX c.fs a && okX c.fs b
 | .alloc _ => true
 | .box _ x => okX c.fs x
 | .build _ ps => ps.all λ x => okX c.fs x.2
 | .buildSlice _ _ ps => ps.all λ x => okX c.fs x.2
 | .load _ a => okX c.fs a
 | .store _ a x => okX c.fs a && okX c.fs x
 | .binOp op t x y _ => okX c.fs x && okX c.fs y && (if op matches .eql | .neq then (keyOk p t || strOk p t) && !(p.eqGuardType p.depth t) else true)
 | .unOp _ _ x => okX c.fs x
 | .convert s d x => okX c.fs x && ((isIntT p s && isIntT p d) || (isU8S p s && isStrT p d))
 | .makeFunc (.func f) a b => c.fs f && a.all (okX c.fs) && b.all (okX c.fs)
 | .makeMap _ r => (match r with | some x => okX c.fs x | none => true)
 | .makeSlice _ l q => okX c.fs l && okX c.fs q
 | .makeChan _ l => okX c.fs l
 | .select cs blocking => !blocking && cs.all λ s => okX c.fs s.chan && (match s.send with | some x => okX c.fs x | none => true)
 | .slice _ x lo hi mx => okX c.fs x && (match lo with | some x => okX c.fs x | none => true) && (match hi with | some x => okX c.fs x | none => true) && (match mx with | some x => okX c.fs x | none => true)
 | .fieldAddr _ x _ | .field _ x _ | .extract x _ => okX c.fs x
 | .indexAddr _ x i => (okX c.fs x || okTab p x) && okX c.fs i
 | .index _ x i => okX c.fs x && okX c.fs i
 | .makeInterface _ x | .panic x => okX c.fs x
 | .lookup t x i _ => okX c.fs x && okX c.fs i && mapOk p t
 | .mapUpdate t m k x => okX c.fs m && okX c.fs k && okX c.fs x && mapOk p t
 | .call { callee:=.value f,args,.. } => okCall c f && args.all (okX c.fs)
 | .call { callee:=.builtin .len,args,.. } | .call { callee:=.builtin .cap,args,.. } | .call { callee:=.builtin .max,args,.. } | .call { callee:=.builtin .min,args,.. } | .call { callee:=.builtin .copy,args,.. } | .call { callee:=.builtin .close,args,.. } => args.all (okX c.fs)
 | .call { callee:=.builtin .append,args,argTypes } => args.all (okX c.fs) && notIntT p argTypes[1]?
 | .call { callee:=.builtin .delete,args,argTypes } => args.all (okX c.fs) && (match argTypes[0]? with | some t => mapOk p t | none => true)
 | _ => false
section
variable {P : Pair} {fs : FuncId -> Bool} {K R : Pr}
abbrev SF (fs : FuncId -> Bool) : FuncId -> Prop:=λ f => fs f = true
theorem keyOk_ok {t : TypeId} (h : keyOk P.c t = true) : KeyOk P t:=by
 unfold keyOk at h
 have hu : ∀ d,P.c.underlying t = some d -> P.underlying t = some d:=λ d e => e
 split at h
 ·next k e =>
  refine ⟨⟨_,e,rfl⟩,λ k' _ i x hi hd => ?_⟩
  have hi' : P.c.info? t = some i:=hi
  rw [hi'] at h
  simp only [hd] at h
  cases h
 ·next d hne e =>
  exact ⟨⟨d,e,h⟩,λ k hk => absurd (e.symm.trans hk) (by intro e'; injection e' with e'; exact hne k (e' ▸ rfl))⟩
 ·cases h
theorem strOk_ok {t : TypeId} (h : strOk P.c t = true) : StrOk P t:=by
 unfold strOk at h
 split at h
 ·next fs e =>
  simp only [Bool.and_eq_true,Bool.not_eq_true'] at h
  refine ⟨⟨fs,e,λ f hf => keyOk_ok ?_⟩,h.2⟩
  have:=h.1
  rw [Array.all_eq_true_iff_forall_mem] at this
  exact this f hf
 ·cases h
theorem okConst_ok {v : Value} (h : okConst v = true) : VR (SF fs) K R v v:=by
 cases v with
 | bool b => exact .bool b
 | int k n => exact .int k n
 | string s => exact .string s
 | nilFunc => exact .nilFunc
 | nilIface => exact .nilIface
 | pointer a => cases a with | none => exact .pointer .none | some a => cases h
 | slice a n c => cases a with | none => exact .slice .none | some a => cases h
 | map a => cases a with | none => exact .map .none | some a => cases h
 | chan a => cases a with | none => exact .chan .none | some a => cases h
 | _ => cases h
inductive NxR (S : FuncId -> Prop) (T : FuncId -> Prop) (K R : Pr) : Next -> Next -> Prop
 | value {v v' : Value} : VR S K R v v' -> NxR S T K R (.value v) (.value v')
 | skip : NxR S T K R .skip .skip
 | enter {f : FuncId} {xs xs' : Array Value} : T f -> ArR S K R xs xs' -> NxR S T K R (.enter f xs) (.enter f xs')
 | comm {cs cs' : Array CommCase} {sh : CommShape} : CsR S K R cs.toList cs'.toList -> NxR S T K R (.comm cs false sh) (.comm cs' false sh)
abbrev NA (S : FuncId -> Prop) (T : FuncId -> Prop) (K : Pr) : Pr -> Next -> Next -> Prop:=λ R n n' => NxR S T K R n n'
theorem sim_v {S T : FuncId -> Prop} {s s' : Sem Value} (h : Sim P S K (VA S K) s R s') : Sim P S K (NA S T K) (do pure (.value (<- s))) R (do pure (.value (<- s'))):=
 Sim.bnd h λ _ _ _ _ hv => Sim.ret (.value hv)
theorem sim_u {S T : FuncId -> Prop} {α : Type} {s s' : Sem α} (h : Sim P S K EqA s R s') : Sim P S K (NA S T K) (do let _ <- s; pure .skip) R (do let _ <- s'; pure .skip):=
 Sim.bnd h λ _ _ _ _ _ => Sim.ret .skip
theorem ArR.maps {S : FuncId -> Prop} {ρ ρ' : Operand -> Value} {ok : Operand -> Bool} (h : ∀ x,ok x = true -> VR S K R (ρ x) (ρ' x)) {xs : Array Operand} (hx : xs.all ok = true) : ArR S K R (xs.map ρ) (xs.map ρ'):=by
 refine ⟨by simp,λ i v v' h1 h2 => ?_⟩
 rw [Array.getElem?_map] at h1 h2
 obtain ⟨x,hx1,rfl⟩:=Option.map_eq_some_iff.1 h1
 obtain ⟨y,hy1,rfl⟩:=Option.map_eq_some_iff.1 h2
 rw [hx1] at hy1
 cases hy1
 exact h x (Array.all_eq_true.1 hx i (Array.getElem?_eq_some_iff.1 hx1).1 |> λ e => by rwa [(Array.getElem?_eq_some_iff.1 hx1).2] at e)
theorem sim_eqGuard {S : FuncId -> Prop} (op : BinOp) (t : TypeId) (x y : Operand) {a a' b b' : Value} (ha : VR S K R a a') (hb : VR S K R b b') (h : P.c.eqGuardType P.c.depth t = false) (h' : P.g.eqGuardType P.g.depth t = false) :
  Sim P S K EqA (eqGuard op t x y a b) R (eqGuard op t x y a' b'):=by
 have rest : Sim P S K EqA (do
   match a,b with
   | .nilIface,.nilIface =>
    if (x matches .const _) || (y matches .const _) then return
    if <- Op.eqGuardIn Op.maxDepth t a b then unsupported (.noEntry "binop/eql: two nil values of an interface type with methods, neither of them the literal nil")
   | .agg _,.agg _ =>
    if !(<- program).eqGuardType (<- program).depth t then return
    if <- Op.eqGuardIn Op.maxDepth t a b then unsupported (.noEntry "binop/eql: two nil values of an interface type with methods, in a part of a struct or an array")
   | _,_ => pure ()) R (do
   match a',b' with
   | .nilIface,.nilIface =>
    if (x matches .const _) || (y matches .const _) then return
    if <- Op.eqGuardIn Op.maxDepth t a' b' then unsupported (.noEntry "binop/eql: two nil values of an interface type with methods, neither of them the literal nil")
   | .agg _,.agg _ =>
    if !(<- program).eqGuardType (<- program).depth t then return
    if <- Op.eqGuardIn Op.maxDepth t a' b' then unsupported (.noEntry "binop/eql: two nil values of an interface type with methods, in a part of a struct or an array")
   | _,_ => pure ()):=by
  cases ha with
  | nilIface =>
   cases hb with
   | nilIface =>
    simp only
    by_cases hc : ((x matches .const _) || (y matches .const _)) = true
    ·rw [if_pos hc]
     exact Sim.ret rfl
    ·rw [if_neg hc]
     refine Sim.bnd (A:=EqA) ?_ λ R1 h1 c _ e => ?_
     ·show Sim P S K EqA (Op.eqGuardIn (9999 + 1) t .nilIface .nilIface) R (Op.eqGuardIn (9999 + 1) t .nilIface .nilIface)
      unfold Op.eqGuardIn
      refine Sim.bnd (sim_underlying t) ?_
      rintro R1 h1 d _ ⟨rfl,_⟩
      cases d <;> exact Sim.ret rfl
     ·subst e
      cases c
      ·exact Sim.ret rfl
      ·exact .inl never_unsupported
   | junk hh => cases b' <;> first | exact hh.elim | exact Sim.ret rfl
   | _ => exact Sim.ret rfl
  | agg e1 e2 =>
   cases hb with
   | agg e3 e4 =>
    simp only
    refine Sim.bnd sim_program ?_
    rintro R1 h1 p q ⟨rfl,rfl⟩
    refine Sim.bnd sim_program ?_
    rintro R2 h2 p q ⟨rfl,rfl⟩
    rw [h,h']
    exact Sim.ret rfl
   | junk hh => cases b' <;> first | exact hh.elim | exact Sim.ret rfl
   | _ => exact Sim.ret rfl
  | junk hh => cases a' <;> first | exact hh.elim | exact Sim.ret rfl
  | _ => exact Sim.ret rfl
 unfold eqGuard
 cases op <;> first | exact Sim.ret rfl | exact rest
theorem sim_cmpS {t : TypeId} (op : BinOp) (ho : op = .eql \/ op = .neq) (he : StrOk P t) (hR : RelOk P K R) {x x' y y' : Value} (hx : VR (SF fs) K R x x') (hy : VR (SF fs) K R y y') :
  Sim P (SF fs) K (VA (SF fs) K) (binOp op t x y) R (binOp op t x' y'):=by
 by_cases hf : (∃ xs,x = .agg xs) /\ ∃ ys,y = .agg ys
 ·obtain ⟨⟨xs,rfl⟩,ys,rfl⟩:=hf
  cases hx with
  | agg e1 e2 =>
   cases hy with
   | agg e3 e4 =>
    have k:=sim_equalS he hR (⟨e1,e2⟩ : ArR (SF fs) K R _ _) (⟨e3,e4⟩ : ArR (SF fs) K R _ _)
    rcases ho with rfl | rfl
    ·exact Sim.bnd k λ R1 _ b _ e => by subst e; exact Sim.ret (.bool _)
    ·exact Sim.bnd k λ R1 _ b _ e => by subst e; exact Sim.ret (.bool _)
 ·have hn:=never_equalS he hf
  cases hx with
  | int k a =>
   cases hy with
   | int k' b =>
    by_cases hk : k = k'
    ·subst hk; rcases ho with rfl | rfl <;> (simp only [binOp,ne_eq,not_true_eq_false,if_false]; exact sim_intCmp _ _ _)
    ·rcases ho with rfl | rfl <;> (simp only [binOp,ne_eq,hk,not_false_eq_true,if_true]; exact .inl never_stuck)
   | _ => rcases ho with rfl | rfl <;> exact .inl (hn.bnd _)
  | string a =>
   cases hy with
   | string b =>
    rcases ho with rfl | rfl
    ·exact sim_stringOp .eql a b
    ·exact sim_stringOp .neq a b
   | _ => rcases ho with rfl | rfl <;> exact .inl (hn.bnd _)
  | _ => rcases ho with rfl | rfl <;> (cases hy <;> exact .inl (hn.bnd _))
theorem sim_cmp {t : TypeId} (op : BinOp) (ho : op = .eql \/ op = .neq) (he : KeyOk P t) (hR : RelOk P K R) {x x' y y' : Value} (hx : VR (SF fs) K R x x') (hy : VR (SF fs) K R y y') :
  Sim P (SF fs) K (VA (SF fs) K) (binOp op t x y) R (binOp op t x' y'):=by
 have k1 : Sim P (SF fs) K (VA (SF fs) K) (do pure (.bool (<- Op.equal t x y))) R (do pure (.bool (<- Op.equal t x' y'))):=
  Sim.bnd (sim_equal he hR hx hy) λ R1 _ b _ e => by subst e; exact Sim.ret (.bool _)
 have k2 : Sim P (SF fs) K (VA (SF fs) K) (do pure (.bool (!(<- Op.equal t x y)))) R (do pure (.bool (!(<- Op.equal t x' y')))):=
  Sim.bnd (sim_equal he hR hx hy) λ R1 _ b _ e => by subst e; exact Sim.ret (.bool _)
 by_cases hf : Flat x /\ Flat y
 rotate_left
 ·obtain ⟨d,hd,ok⟩:=he.ex
  have hn:=never_equal hd ok hf
  refine .inl ?_
  rcases ho with rfl | rfl <;> cases x <;> cases y <;> first
   | exact (hf ⟨True.intro,True.intro⟩).elim
   | exact hn.bnd _
 rcases ho with rfl | rfl
 ·cases hx with
  | int k a =>
   cases hy with
   | int k' b =>
    by_cases hk : k = k'
    ·subst hk; simp only [binOp,ne_eq,not_true_eq_false,if_false]; exact sim_intCmp _ _ _
    ·simp only [binOp,ne_eq,hk,not_false_eq_true,if_true]; exact .inl never_stuck
   | junk hh => exact hf.2.elim
   | _ => exact k1
  | string a =>
   cases hy with
   | string b => exact sim_stringOp .eql a b
   | junk hh => exact hf.2.elim
   | _ => exact k1
  | junk hh => exact hf.1.elim
  | _ => cases hy <;> first | exact k1 | exact hf.2.elim
 ·cases hx with
  | int k a =>
   cases hy with
   | int k' b =>
    by_cases hk : k = k'
    ·subst hk; simp only [binOp,ne_eq,not_true_eq_false,if_false]; exact sim_intCmp _ _ _
    ·simp only [binOp,ne_eq,hk,not_false_eq_true,if_true]; exact .inl never_stuck
   | junk hh => exact hf.2.elim
   | _ => exact k2
  | string a =>
   cases hy with
   | string b => exact sim_stringOp .neq a b
   | junk hh => exact hf.2.elim
   | _ => exact k2
  | junk hh => exact hf.1.elim
  | _ => cases hy <;> first | exact k2 | exact hf.2.elim
theorem sim_convInt {s d : TypeId} (hs : isIntT P.c s = true) (hd : isIntT P.c d = true) {S : FuncId -> Prop} {x x' : Value} (hx : VR S K R x x') : Sim P S K (VA S K) (convert s d x) R (convert s d x'):=by
 unfold convert
 refine Sim.bnd (sim_underlying s) ?_
 rintro R1 h1 a _ ⟨rfl,ha⟩
 refine Sim.bnd (sim_underlying d) ?_
 rintro R2 h2 b _ ⟨rfl,hb⟩
 have ha' : P.c.underlying s = some a:=ha
 have hb' : P.c.underlying d = some b:=hb
 unfold isIntT at hs hd
 rw [ha'] at hs
 rw [hb'] at hd
 cases a <;> simp only [Bool.false_eq_true] at hs
 cases b <;> simp only [Bool.false_eq_true] at hd
 cases hx with
 | int k n => exact Sim.ret (.int _ _)
 | pointer h => cases h <;> exact .inl never_unsupported
 | _ => exact .inl never_unsupported
theorem never_underlying {t : TypeId} {d : TypeDesc} (hd : P.c.underlying t = some d) {β : Type} {f : TypeDesc -> Sem β} (hf : Never P (f d)) : Never P (underlying t >>= f):=λ w hw => by
 obtain ⟨h1,w1,h2,h3⟩:=hf w hw
 refine ⟨h1,w1,?_,h3⟩
 have hg : P.g.underlying t = some d:=hd
 have hu : (underlying t).run P.g w = .ok d w:=by simp [underlying,program,Sem.run,bind,Sem.bind,pure,hg]
 have:=Sem.run_bind' P.g (underlying t) f w
 rw [hu] at this
 exact this.trans h2
theorem isU8S_ok {p : Program} {s : TypeId} (h : isU8S p s = true) : ∃ e,p.underlying s = some (.slice e) /\ p.underlying e = some (.int .u8):=by
 unfold isU8S at h
 split at h
 ·next e he =>
  split at h
  ·next h2 => exact ⟨e,he,h2⟩
  ·cases h
 ·cases h
theorem isStrT_ok {p : Program} {s : TypeId} (h : isStrT p s = true) : p.underlying s = some .string:=by
 unfold isStrT at h
 split at h
 ·next he => exact he
 ·cases h
theorem sim_intToString {S : FuncId -> Prop} (n : Int) : Sim P S K (VA S K) (Conv.intToString n) R (Conv.intToString n):=by
 unfold Conv.intToString
 first | exact Sim.ret (.string _) | (split <;> exact Sim.ret (.string _))
theorem sim_convStr {s d : TypeId} (hs : isU8S P.c s = true) (hd : isStrT P.c d = true) {S : FuncId -> Prop} {x x' : Value} (hx : VR S K R x x') : Sim P S K (VA S K) (convert s d x) R (convert s d x'):=by
 obtain ⟨e,hs1,hs2⟩:=isU8S_ok hs
 have hd1:=isStrT_ok hd
 by_cases hj : x = .nilFunc
 ·subst hj
  refine .inl ?_
  unfold convert
  exact never_underlying hs1 (never_underlying hd1 (never_underlying hs2 never_stuck))
 unfold convert
 refine Sim.bnd (sim_underlying s) ?_
 rintro R1 h1 a _ ⟨rfl,ha⟩
 refine Sim.bnd (sim_underlying d) ?_
 rintro R2 h2 b _ ⟨rfl,hb⟩
 obtain rfl : a = .slice e:=Option.some.inj ((show P.c.underlying s = some a from ha).symm.trans hs1)
 obtain rfl : b = .string:=Option.some.inj ((show P.c.underlying d = some b from hb).symm.trans hd1)
 have tail : ∀ {x x' : Value},VR S K R2 x x' -> Sim P S K (VA S K) (do match <- underlying e with | .int .u8 => Conv.bytesToString x | .int .i32 => Conv.runesToString x | _ => stuck "Convert: a slice of what to string?") R2
   (do match <- underlying e with | .int .u8 => Conv.bytesToString x' | .int .i32 => Conv.runesToString x' | _ => stuck "Convert: a slice of what to string?"):=by
  intro x x' hx
  refine Sim.bnd (sim_underlying e) ?_
  rintro R3 h3 c _ ⟨rfl,hc⟩
  obtain rfl : c = .int .u8:=Option.some.inj ((show P.c.underlying e = some c from hc).symm.trans hs2)
  exact sim_bytesToString (hx.mono h3.le)
 have hx2:=(hx.mono h1.le).mono h2.le
 cases hx with
 | int k n => exact sim_intToString n
 | string s => exact Sim.ret (.string s)
 | nilFunc => exact absurd rfl hj
 | junk _ => exact absurd rfl hj
 | slice h => cases h <;> exact tail hx2
 | _ => exact tail hx2
def fitCode (p : Program) (q : Cl) : Code -> Bool
 | .skip | .ret | .exit _ | .label _ => true
 | .region _ ops _ => ops.all λ o => okOp p q o.op
 | .seq a b => fitCode p q a && fitCode p q b
 | .cond c a b => okX q.fs c && fitCode p q a && fitCode p q b
 | .block _ c | .loop c | .scope c => fitCode p q c
 | _ => false
def cls (P : Pair) (fs : FuncId -> Bool) (f : FuncId) : Cl:=if P.lw f then ⟨fs,P.lw,false⟩ else ⟨fs,P.gs,P.dy⟩
theorem cls_fs (P : Pair) (fs : FuncId -> Bool) (f : FuncId) : (cls P fs f).fs = fs:=by unfold cls; split <;> rfl
structure Fit (P : Pair) (fs : FuncId -> Bool) : Prop where
 zero : ZeroOk P (SF fs)
 fn : ∀ f,P.gs f = true -> P.op f = false -> ∃ fn c,P.g.funcs[f]? = some fn /\ P.c.funcs[f]? = some fn /\ (fn.name == "runtime.NumGoroutine") = false /\ fn.body = some c /\ fitCode P.c (cls P fs f) c = true
 opq : ∀ f,P.gs f = true -> P.op f = true -> ∃ fn fn' c c',P.g.funcs[f]? = some fn /\ P.c.funcs[f]? = some fn' /\ (fn.name == "runtime.NumGoroutine") = false /\ (fn'.name == "runtime.NumGoroutine") = false /\ fn.body = some c /\ fn'.body = some c'
 low : ∀ f,P.lw f = true -> P.op f = false /\ P.gs f = true
 dyn : P.dy = true -> ∀ f,fs f = true -> P.gs f = true
 guard : ∀ t,P.g.eqGuardType P.g.depth t = P.c.eqGuardType P.c.depth t
theorem sim_callFunc (F : Fit P fs) {T : FuncId -> Prop} {f : FuncId} (hf : P.gs f = true) (hT : T f) {xs xs' : Array Value} (h : ArR (SF fs) K R xs xs') : Sim P (SF fs) K (NA (SF fs) T K) (callFunc f xs) R (callFunc f xs'):=by
 unfold callFunc
 refine Sim.bnd sim_program ?_
 rintro R1 h1 p q ⟨rfl,rfl⟩
 cases ho : P.op f with
 | false =>
  obtain ⟨fn,c,e1,e2,e3,e4,_⟩:=F.fn f hf ho
  simp only [e1,e2,e3,e4,Option.isNone_some,Bool.false_eq_true,if_false]
  exact Sim.ret (.enter hT (h.mono h1.le))
 | true =>
  obtain ⟨fn,fn',c,c',e1,e2,e3,e4,e5,e6⟩:=F.opq f hf ho
  simp only [e1,e2,e3,e4,e5,e6,Option.isNone_some,Bool.false_eq_true,if_false]
  exact Sim.ret (.enter hT (h.mono h1.le))
theorem okX_ov {S : FuncId -> Prop} {ρ ρ' : Operand -> Value} (hρ : ∀ x,okX fs x = true -> VR S K R (ρ x) (ρ' x)) {r : Option Operand} (h : (match r with | some x => okX fs x | none => true) = true) : OvR S K R (r.map ρ) (r.map ρ'):=by
 cases r with
 | none => exact .none
 | some x => exact .some (hρ x h)
theorem okX_ps {S : FuncId -> Prop} {ρ ρ' : Operand -> Value} (hρ : ∀ x,okX fs x = true -> VR S K R (ρ x) (ρ' x)) {ps : Array (Nat × Operand)} (h : (ps.all λ x => okX fs x.2) = true) : PsR S K R (ps.map λ (i,x) => (i,ρ x)).toList (ps.map λ (i,x) => (i,ρ' x)).toList:=by
 rw [Array.toList_map,Array.toList_map]
 have h' : ∀ x ∈ ps.toList,okX fs x.2 = true:=λ x hx => by
  rw [Array.all_eq_true'] at h
  exact h x (by simpa using hx)
 generalize ps.toList = l at h' ⊢
 induction l with
 | nil => exact .nil
 | cons a l ih =>
  obtain ⟨i,x⟩:=a
  exact .cons (hρ x (h' (i,x) (by simp))) (ih λ y hy => h' y (by simp [hy]))
theorem sim_cases {S : FuncId -> Prop} (hz : ZeroOk P S) {ρ ρ' : Operand -> Value} (hρ : ∀ x,okX fs x = true -> VR S K R (ρ x) (ρ' x)) {cs : Array SelectCase} (ok : (cs.all λ s => okX fs s.chan && (match s.send with | some x => okX fs x | none => true)) = true) :
  Sim P S K (λ R a b => CsR S K R a.toList b.toList) (cs.mapM λ s => do pure ({ chan:=ρ s.chan,send:=s.send.map ρ,zero:=<- zeroValue s.elem } : CommCase)) R (cs.mapM λ s => do pure ({ chan:=ρ' s.chan,send:=s.send.map ρ',zero:=<- zeroValue s.elem } : CommCase)):=by
 have key : ∀ (l : List SelectCase) {R1 : Pr},Ext P K R R1 -> (∀ s ∈ l,(okX fs s.chan && (match s.send with | some x => okX fs x | none => true)) = true) ->
   Sim P S K (λ R a b => CsR S K R a b) (l.mapM λ s => do pure ({ chan:=ρ s.chan,send:=s.send.map ρ,zero:=<- zeroValue s.elem } : CommCase)) R1 (l.mapM λ s => do pure ({ chan:=ρ' s.chan,send:=s.send.map ρ',zero:=<- zeroValue s.elem } : CommCase)):=by
  intro l
  induction l with
  | nil => intro R1 _ _; rw [List.mapM_nil,List.mapM_nil]; exact Sim.ret .nil
  | cons x l ih =>
   intro R1 h1 hl
   have hx:=hl x (by simp)
   simp only [Bool.and_eq_true] at hx
   rw [List.mapM_cons,List.mapM_cons]
   refine Sim.bnd (A:=λ R a b => CcR S K R a b) (Sim.bnd (sim_zeroValue hz x.elem) λ R2 h2 a b hab => Sim.ret (.mk ((hρ _ hx.1).mono (h1.trans h2).le) ((okX_ov hρ hx.2).mono (h1.trans h2).le) hab)) λ R2 h2 a b hab => ?_
   refine Sim.bnd (ih (h1.trans h2) λ s hs => hl s (by simp [hs])) λ R3 h3 c d hcd => ?_
   exact Sim.ret (.cons (hab.mono h3.le) hcd)
 rw [Array.mapM_eq_mapM_toList,Array.mapM_eq_mapM_toList,map_eq_pure_bind,map_eq_pure_bind]
 refine Sim.bnd (key cs.toList (.refl R) λ s hs => ?_) λ R1 h1 a b hab => Sim.ret (by simpa using hab)
 rw [Array.all_eq_true_iff_forall_mem] at ok
 exact ok s (by simpa using hs)
theorem ask_heap {α : Type} (q : Ask α) : ∀ w : World,(w.ask q).2.heap = w.heap:=by
 induction q with
 | done a => intro w; rfl
 | ask what range k ih =>
  intro w
  unfold World.ask
  simp only
  split
  ·exact ih _ w
  ·exact ih _ _
theorem soft_sys (c : Sys) : Soft P (sys c):=λ w hw => .inl ⟨(w.sys c).1,(w.sys c).2,rfl,λ b cc e => by
 have : (w.sys c).2.heap = w.heap:=by
  have h:=ask_heap (Kernel.perform c w.os) w
  unfold World.sys
  split
  ·rfl
  ·next e => rw [e] at h; exact h
 rw [this]
 exact hw b cc e⟩
theorem never_panic {x : Value} : Never P (Instr.panic x):=by
 unfold Instr.panic
 cases x <;> first | exact never_goPanic | exact never_stuck | skip
 refine Never.then ?_ λ n => ?_
 ·unfold Instr.panicnil
  refine (soft_sys _).bnd λ r => ?_
  cases r <;> first | exact .never never_stuck | exact soft_program.bnd λ _ => Soft.ret _
 ·split
  ·exact never_goPanic
  ·exact never_runtimePanic
theorem sim_execOp (F : Fit P fs) (hR : RelOk P K R) {ρ ρ' : Operand -> Value} (hρ : ∀ x,okX fs x = true -> VR (SF fs) K R (ρ x) (ρ' x)) (hff : ∀ g,ρ (.func g) = .func (.func g) #[] #[]) (hff' : ∀ g,ρ' (.func g) = .func (.func g) #[] #[]) (hgg : ∀ g,ρ (.global g) = .pointer (some ⟨g,0,none⟩)) (hgg' : ∀ g,ρ' (.global g) = .pointer (some ⟨g,0,none⟩)) {q : Cl} (hq : q.fs = fs) (hqg : ∀ f,q.gs f = true -> P.gs f = true) (hqd : q.dy = true -> ∀ f,fs f = true -> q.gs f = true) {o : Oper} (ok : okOp P.c q o.op = true) :
  Sim P (SF fs) K (NA (SF fs) q.T K) (execOp ρ o) R (execOp ρ' o):=by
 obtain ⟨dst,op,type,pos,after,guard⟩:=o
 subst hq
 simp only at ok
 unfold execOp
 cases op with
 | move x => exact Sim.ret (.value (hρ x ok))
 | assign x => exact Sim.ret (.value (hρ x ok))
 | pick c a b =>
  simp only [okOp,Bool.and_eq_true] at ok
  refine Sim.bnd (sim_asBool (hρ c ok.1.1)) ?_
  rintro R1 h1 x _ rfl
  cases x
  ·exact Sim.ret (.value ((hρ b ok.2).mono h1.le))
  ·exact Sim.ret (.value ((hρ a ok.1.2).mono h1.le))
 | alloc t => exact sim_v (sim_alloc F.zero t)
 | box t x => exact sim_v (sim_box t (hρ x ok))
 | load t a => exact sim_v (sim_loadAt t (hρ a ok))
 | store t a x =>
  simp only [okOp,Bool.and_eq_true] at ok
  exact sim_u (sim_storeAt t (hρ a ok.1) (hρ x ok.2))
 | binOp op t x y t' =>
  simp only [okOp,Bool.and_eq_true] at ok
  obtain ⟨⟨hx,hy⟩,hk⟩:=ok
  by_cases ho : op = .eql \/ op = .neq
  ·have hk' : (keyOk P.c t = true \/ strOk P.c t = true) /\ P.c.eqGuardType P.c.depth t = false:=by
    rcases ho with rfl | rfl <;> simpa using hk
   refine sim_v ?_
   refine Sim.bnd (sim_eqGuard op t x y (hρ x hx) (hρ y hy) hk'.2 (by rw [F.guard]; exact hk'.2)) ?_
   rintro R1 h1 _ _ _
   rcases hk'.1 with hk1 | hk1
   ·exact sim_cmp op ho (keyOk_ok hk1) (h1.ok hR) ((hρ x hx).mono h1.le) ((hρ y hy).mono h1.le)
   ·exact sim_cmpS op ho (strOk_ok hk1) (h1.ok hR) ((hρ x hx).mono h1.le) ((hρ y hy).mono h1.le)
  ·have ho' : op ≠ .eql /\ op ≠ .neq:=⟨λ e => ho (.inl e),λ e => ho (.inr e)⟩
   refine sim_v ?_
   have hg : ∀ a b,eqGuard op t x y a b = Pure.pure ():=λ a b => by
    unfold eqGuard
    cases op <;> first | rfl | exact absurd rfl ho'.1 | exact absurd rfl ho'.2
   rw [hg,hg]
   refine Sim.bnd (A:=EqA) (Sim.ret rfl) ?_
   rintro R1 h1 _ _ _
   exact sim_arith op t ho' (h1.ok hR) ((hρ x hx).mono h1.le) ((hρ y hy).mono h1.le)
 | unOp op t x => exact sim_v (sim_unary op (hρ x ok))
 | convert s d x =>
  simp only [okOp,Bool.and_eq_true,Bool.or_eq_true] at ok
  rcases ok.2 with h | h
  ·exact sim_v (sim_convInt h.1 h.2 (hρ x ok.1))
  ·exact sim_v (sim_convStr h.1 h.2 (hρ x ok.1))
 | nilCheck x =>
  have:=sim_nilChk (P:=P) (hρ x ok)
  exact this.mono λ R' _ a b h => by
   obtain ⟨v,v',rfl,rfl,h⟩:=h
   exact .value h
 | build t ps => exact sim_v (sim_build F.zero t (okX_ps hρ ok))
 | buildSlice t n ps => exact sim_v (sim_buildSlice F.zero t n (okX_ps hρ ok))
 | makeFunc fn a b =>
  cases fn with
  | func f =>
   simp only [okOp,Bool.and_eq_true] at ok
   have ha:=ArR.maps hρ ok.1.2
   have hb:=ArR.maps hρ ok.2
   exact sim_v (Sim.ret (.func ok.1.1 ha.1 ha.2 hb.1 hb.2))
  | _ => cases ok
 | makeMap t r => exact sim_v (sim_makeMap t (okX_ov hρ ok))
 | makeSlice t l c =>
  simp only [okOp,Bool.and_eq_true] at ok
  exact sim_v (sim_makeSlice F.zero t (hρ l ok.1) (hρ c ok.2))
 | makeChan t l => exact sim_v (sim_makeChan t (hρ l ok))
 | select cs blocking =>
  simp only [okOp,Bool.and_eq_true,Bool.not_eq_true'] at ok
  obtain ⟨rfl,ok⟩:=ok
  refine Sim.bnd (sim_cases F.zero hρ ok) λ R1 h1 a b hab => ?_
  exact Sim.ret (.comm hab)
 | slice t x lo hi mx =>
  simp only [okOp,Bool.and_eq_true] at ok
  exact sim_v (sim_sliceAt t (hρ x ok.1.1.1) (okX_ov hρ ok.1.1.2) (okX_ov hρ ok.1.2) (okX_ov hρ ok.2))
 | fieldAddr t x f => exact sim_v (sim_fieldAt t (hρ x ok) f)
 | field t x f => exact sim_v (sim_field t (hρ x ok) f)
 | extract x i => exact sim_v (sim_extract (hρ x ok) i)
 | indexAddr t x i =>
  simp only [okOp,Bool.and_eq_true,Bool.or_eq_true] at ok
  have hx : VR (SF q.fs) K R (ρ x) (ρ' x):=by
   rcases ok.1 with h | h
   ·exact hρ x h
   ·cases x with
    | global g => rw [hgg,hgg']; exact .pointer (.some (.mk (hR.tb g h)))
    | _ => cases h
  exact sim_v (sim_indexAt t hx (hρ i ok.2))
 | makeInterface t x => exact sim_v (sim_makeInterface t (hρ x ok))
 | panic x => exact sim_v (.inl never_panic)
 | index t x i =>
  simp only [okOp,Bool.and_eq_true] at ok
  exact sim_v (sim_index t (hρ x ok.1) (hρ i ok.2))
 | lookup t x i c =>
  simp only [okOp,Bool.and_eq_true] at ok
  refine sim_v (sim_lookup F.zero (λ k e he => ?_) hR (hρ x ok.1.1) (hρ i ok.1.2) c)
  have hm:=ok.2
  unfold mapOk at hm
  rw [show P.c.underlying t = some (.map k e) from he] at hm
  exact keyOk_ok hm
 | mapUpdate t m k x =>
  simp only [okOp,Bool.and_eq_true] at ok
  refine sim_u (sim_mapUpdate (λ k e he => ?_) hR (hρ m ok.1.1.1) (hρ k ok.1.1.2) (hρ x ok.1.2))
  have hm:=ok.2
  unfold mapOk at hm
  rw [show P.c.underlying t = some (.map k e) from he] at hm
  exact keyOk_ok hm
 | call c =>
  obtain ⟨callee,args,ats⟩:=c
  cases callee with
  | value f =>
   simp only [okOp,Bool.and_eq_true] at ok
   have ha:=ArR.maps hρ ok.2
   have key : (∀ g,f ≠ .func g) -> Sim P (SF q.fs) K (NA (SF q.fs) q.T K) (execOp ρ ⟨dst,.call ⟨.value f,args,ats⟩,type,pos,after,guard⟩) R (execOp ρ' ⟨dst,.call ⟨.value f,args,ats⟩,type,pos,after,guard⟩):=by
    intro hne
    have h1 : okX q.fs f = true /\ q.dy = true:=by
     have:=ok.1
     unfold okCall at this
     cases f with
     | func g => exact absurd rfl (hne g)
     | _ => simpa using this
    have hf:=hρ f h1.1
    unfold execOp
    simp only [resolve]
    unfold Deferred.ofValue
    generalize ρ f = vf at hf ⊢
    generalize ρ' f = vf' at hf ⊢
    cases hf with
    | nilFunc =>
     refine .inl ?_
     intro w hw
     exact (never_runtimePanic (P:=P) (α:=Next) (e:=.nilDeref)) w hw
    | junk _ =>
     refine .inl ?_
     intro w hw
     exact (never_runtimePanic (P:=P) (α:=Next) (e:=.nilDeref)) w hw
    | func hs e1 h1' e2 h2 =>
     show Sim P _ K _ (callFunc _ _) R (callFunc _ _)
     exact sim_callFunc F (hqg _ (hqd h1.2 _ hs)) (hqd h1.2 _ hs) (ArR.append (ArR.append ⟨e1,h1'⟩ ha) ⟨e2,h2⟩)
    | _ => exact .inl (Never.bnd never_stuck _)
   cases f with
   | func g =>
    have hg : q.gs g = true:=ok.1
    simp only [resolve]
    unfold Deferred.ofValue
    rw [hff,hff']
    show Sim P _ K _ (callFunc _ _) R (callFunc _ _)
    exact sim_callFunc F (hqg _ hg) hg (ArR.append (ArR.append ArR.empty ha) ArR.empty)
   | _ => exact key (λ g e => by cases e)
  | builtin b =>
   cases b with
   | len => exact sim_v (sim_len ats type (ArR.maps hρ ok))
   | cap => exact sim_v (sim_cap ats type (ArR.maps hρ ok))
   | max => exact sim_v (sim_max ats type (ArR.maps hρ ok))
   | min => exact sim_v (sim_min ats type (ArR.maps hρ ok))
   | copy => exact sim_v (sim_copy ats type (ArR.maps hρ ok))
   | close => exact sim_v (sim_close ats type (ArR.maps hρ ok))
   | append =>
    simp only [okOp,Bool.and_eq_true] at ok
    refine sim_v (sim_append F.zero type (λ xt d he hd k hk => ?_) (ArR.maps hρ ok.1))
    have h2:=ok.2
    unfold notIntT at h2
    rw [he] at h2
    have hd' : P.c.underlying xt = some d:=hd
    simp only [hd'] at h2
    subst hk
    cases h2
   | delete =>
    simp only [okOp,Bool.and_eq_true] at ok
    refine sim_v (sim_delete type (λ mt k e he hd => ?_) hR (ArR.maps hρ ok.1))
    have h2:=ok.2
    rw [he] at h2
    simp only at h2
    unfold mapOk at h2
    rw [show P.c.underlying mt = some (.map k e) from hd] at h2
    exact keyOk_ok h2
   | _ => cases ok
  | invoke x y => cases ok
 | _ => cases ok
end
end Go.Tt
namespace Go.Tt
def tp (w : World) (T : Tape) (e : Nat) : World:={ w with tape:=T,drawn:=e }
def Local {α : Type} (p : Program) (s : Sem α) (w : World) : Prop:=
 ∀ x w',s.run p w = .ok x w' -> w'.tape = w.tape /\ w.drawn <= w'.drawn /\ ∀ T e,(∀ n,n < w'.drawn - w.drawn -> ∀ q,T (e + n) q = w.tape (w.drawn + n) q) -> s.run p (tp w T e) = .ok x (tp w' T (e + (w'.drawn - w.drawn)))
theorem Local.no {α : Type} {p : Program} {s : Sem α} {w : World} (h : ∀ x w',s.run p w ≠ .ok x w') : Local p s w:=λ x w' e => absurd e (h x w')
theorem Local.after {α : Type} {p : Program} {s s₁ : Sem α} {w w₁ : World} (h : Local p s₁ w₁) (hr : s.run p w = s₁.run p w₁) (ht : w₁.tape = w.tape) (hd : w₁.drawn = w.drawn) (hr' : ∀ T e,s.run p (tp w T e) = s₁.run p (tp w₁ T e)) : Local p s w:=by
 intro x w' e
 rw [hr] at e
 obtain ⟨h1,h2,h3⟩:=h x w' e
 refine ⟨h1.trans ht,by omega,λ T e' ha => ?_⟩
 rw [hr',h3 T e' (λ n hn q => by rw [ha n (by omega) q,ht,hd])]
 rw [hd]
theorem Sim.locl {P : Pair} {S : FuncId -> Prop} {α β : Type} {K : Pr} {A : Pr -> α -> β -> Prop} {G : Gp} {St : Nat -> Prop} (hG : G = P.gp) (s : Sem α) :
  ∀ {R : Pr} {w W : World} {s' : Sem β},Sim P S K A s R s' -> WRel S K R G St w W -> Tp w W -> Local P.g s w:=by
 induction s with
 | pure a =>
  rintro R w W s' _ hw ht x w' e
  simp only [Sem.run,Result.ok.injEq] at e
  obtain ⟨rfl,rfl⟩:=e
  exact ⟨rfl,Nat.le_refl _,λ T e _ => by simp [Sem.run]⟩
 | load m a k ih =>
  rintro R w W s' (hn | ⟨rfl,a',k',rfl,ha,hk⟩) hw ht
  ·exact .no (hn.no hw.np)
  obtain ⟨hab⟩:=ha
  rename_i b b' o sp
  obtain ⟨ob,ob',h1,h2,h3⟩:=hw.cont b b' hab
  cases h3 with
  | cells hc hz =>
   rename_i c c' T fz fz'
   cases sp with
   | some sp => exact .no λ x w' => by simp [Sem.run,World.cell?,h1,World.farLoad,World.noCell]
   | none =>
    cases hv : c[o]? with
    | none => exact .no λ x w' => by simp [Sem.run,World.cell?,h1,World.farLoad,World.noCell,hv]
    | some v =>
     obtain ⟨v',hv',hvv⟩:=hc.get hv
     have e1 : w.cell? ⟨b,o,none⟩ = some v:=by simp [World.cell?,h1,hv]
     refine (ih v (hk v v' hvv) hw ht).after (by rw [Sem.run,e1]) rfl rfl λ T e => ?_
     rw [Sem.run,show (tp w T e).cell? ⟨b,o,none⟩ = some v from e1]
  | _ => exact .no λ x w' => by simp [Sem.run,World.cell?,h1,World.farLoad,World.noCell]
 | store m a v k ih =>
  rintro R w W s' (hn | ⟨rfl,a',v',k',rfl,ha,hv,hk⟩) hw ht
  ·exact .no (hn.no hw.np)
  obtain ⟨hab⟩:=ha
  rename_i b b' o sp
  by_cases hna : ∃ cs,v = .agg cs
  ·obtain ⟨cs,rfl⟩:=hna; exact .no λ x w' => by simp [Sem.run]
  by_cases hnt : ∃ cs,v = .tuple cs
  ·obtain ⟨cs,rfl⟩:=hnt; exact .no λ x w' => by simp [Sem.run]
  have hrun : ∀ w : World,(Sem.store .plain ⟨b,o,sp⟩ v k).run P.g w = (match w.cell? ⟨b,o,sp⟩ with
    | some _ => if w.frozen? ⟨b,o,sp⟩ then .halt (.unsupported (.unsafePointer "a write to bytes that a string shares")) w else k.run P.g (w.setCell ⟨b,o,sp⟩ v)
    | none => match w.farStore P.g ⟨b,o,sp⟩ v (Mode.plain == .atomic) with
     | .ok (w,_) => k.run P.g w
     | .error h => .halt h w):=λ w => by
   rw [Sem.run]
   ·rfl
   ·exact λ cs e => hna ⟨cs,e⟩
   ·exact λ cs e => hnt ⟨cs,e⟩
  obtain ⟨ob,ob',h1,h2,h3⟩:=hw.cont b b' hab
  cases h3 with
  | cells hc hz =>
   rename_i c c' T fz fz'
   cases sp with
   | some sp => exact .no λ x w' => by rw [hrun]; simp [World.cell?,h1,World.farStore,World.noCell]
   | none =>
    cases hv0 : c[o]? with
    | none => exact .no λ x w' => by rw [hrun]; simp [World.cell?,h1,World.farStore,World.noCell,hv0]
    | some v0 =>
     have e1 : w.cell? ⟨b,o,none⟩ = some v0:=by simp [World.cell?,h1,hv0]
     cases hfz : w.frozen? ⟨b,o,none⟩ with
     | true => exact .no λ x w' => by rw [hrun,e1]; simp [hfz]
     | false =>
      have nfz : ¬ inFz fz o:=by
       intro ⟨z1,z2⟩
       simp [World.frozen?,h1,z1,z2] at hfz
      have hns : ¬ St b:=by
       intro hs
       obtain ⟨_,c2,T2,hi,g1,g2⟩:=hw.st b hs
       rw [h1] at g1
       injection g1 with g1
       injection g1 with g1 _ g3
       subst g1 g3
       exact nfz ⟨Nat.zero_le _,Nat.lt_of_lt_of_le (Array.getElem?_eq_some_iff.1 hv0).1 g2⟩
      have st:=WStep.upd hw hab hns (ObR.cells (T:=T) (hc.set o hv) hz)
      refine (ih hk st.rel (ht.step st)).after (by rw [hrun,e1]; simp only [hfz,Bool.false_eq_true,if_false]; rw [setCell_eq h1]) rfl rfl λ T' e => ?_
      rw [hrun,show (tp w T' e).cell? ⟨b,o,none⟩ = some v0 from e1]
      simp only [show (tp w T' e).frozen? ⟨b,o,none⟩ = false from hfz,Bool.false_eq_true,if_false]
      rw [setCell_eq (w:=tp w T' e) h1]
      rfl
  | _ => exact .no λ x w' => by rw [hrun]; simp [World.cell?,h1,World.farStore,World.noCell]
 | new o k ih =>
  rintro R w W s' (hn | ⟨o',k',rfl,ho,hk⟩) hw ht
  ·exact .no (hn.no hw.np)
  have st:=WStep.push hw ho
  exact (ih _ (hk _ _ ⟨λ b hb => absurd (hw.lt _ _ hb).1 (Nat.lt_irrefl _),λ a ha => absurd (hw.lt _ _ ha).2 (Nat.lt_irrefl _),by subst hG; exact hw.gle⟩) st.rel (ht.step st)).after (by rw [Sem.run]) rfl rfl λ T e => by rw [Sem.run]; rfl
 | shape r k ih =>
  rintro R w W s' (hn | ⟨r',k',rfl,hrr,hk⟩) hw ht
  ·exact .no (hn.no hw.np)
  exact (ih _ (hk _) hw ht).after (by rw [Sem.run]) rfl rfl λ T e => by rw [Sem.run]; rfl
 | freeze a n k ih =>
  rintro R w W s' (hn | h) hw ht
  ·exact .no (hn.no hw.np)
  ·exact h.elim
 | frozen a k ih =>
  rintro R w W s' (hn | ⟨r',k',rfl,hk⟩) hw ht
  ·exact .no (hn.no hw.np)
  exact (ih _ (hk _ true) hw ht).after (by rw [Sem.run]) rfl rfl λ T e => by rw [Sem.run]; rfl
 | getObj r k ih =>
  rintro R w W s' (hn | ⟨r',k',rfl,hrr,hk⟩) hw ht
  ·exact .no (hn.no hw.np)
  rcases hw.orR hrr with y | y
  ·obtain ⟨ob,ob',h1,h2,h3⟩:=hw.cont r r' y
   have go : (∀ c T fz,ob ≠ .cells c T fz) -> Local P.g (.getObj r k) w:=λ n1 => by
    refine (ih ob (hk _ _ h3) hw ht).after ?_ rfl rfl λ T e => ?_
    ·rw [Sem.run,h1]; cases ob <;> first | rfl | exact absurd rfl (n1 _ _ _)
    ·rw [Sem.run,show (tp w T e).heap[r]? = some ob from h1]; cases ob <;> first | rfl | exact absurd rfl (n1 _ _ _)
   cases h3 with
   | cells _ _ => exact .no λ x w' => by rw [Sem.run,h1]; simp
   | _ => exact go (by simp)
  ·exact .no λ x w' => by rw [Sem.run,y]; simp [waste]
 | setObj r o k ih =>
  rintro R w W s' (hn | ⟨r',o',k',rfl,hrr,ho,hk⟩) hw ht
  ·exact .no (hn.no hw.np)
  rcases hw.orR hrr with y | y
  ·obtain ⟨ob,ob',h1,h2,h3⟩:=hw.cont r r' y
   have go : (∀ c T fz,ob ≠ .cells c T fz) -> Local P.g (.setObj r o k) w:=λ n1 => by
    have hns : ¬ St r:=by
     intro hs
     obtain ⟨_,c2,T2,hi,g1,g2⟩:=hw.st r hs
     rw [h1] at g1
     injection g1 with g1
     exact n1 _ _ _ g1
    have st:=WStep.upd hw y hns ho
    refine (ih hk st.rel (ht.step st)).after ?_ rfl rfl λ T e => ?_
    ·rw [Sem.run,h1]; cases ob <;> first | rfl | exact absurd rfl (n1 _ _ _)
    ·rw [Sem.run,show (tp w T e).heap[r]? = some ob from h1]; cases ob <;> first | rfl | exact absurd rfl (n1 _ _ _)
   cases h3 with
   | cells _ _ => exact .no λ x w' => by rw [Sem.run,h1]; simp
   | _ => exact go (by simp)
  ·exact .no λ x w' => by rw [Sem.run,y]; simp [waste]
 | choose q k ih =>
  rintro R w W s' (hn | ⟨k',rfl,hk⟩) hw ht
  ·exact .no (hn.no hw.np)
  cases hq : q.forced with
  | true => exact (ih 0 (hk 0) hw ht).after (by rw [Sem.run,hq]; rfl) rfl rfl λ T e => by rw [Sem.run,hq]; rfl
  | false =>
   have st:=WStep.draw hw
   intro x w' e
   rw [Sem.run,hq] at e
   simp only [Bool.false_eq_true,if_false] at e
   obtain ⟨h1,h2,h3⟩:=ih _ (hk _) st.rel (ht.step st) x w' e
   simp only at h1 h2 h3
   refine ⟨h1,by omega,λ T e' ha => ?_⟩
   rw [Sem.run,hq]
   simp only [Bool.false_eq_true,if_false]
   have ea : T e' q = w.tape w.drawn q:=ha 0 (by omega) q
   have:=h3 T (e' + 1) (λ n hn q' => by rw [show e' + 1 + n = e' + (n + 1) by omega,show w.drawn + 1 + n = w.drawn + (n + 1) by omega]; exact ha (n + 1) (by omega) q')
   show Sem.run P.g (k (q.cut (T e' q))) (tp w T (e' + 1)) = _
   rw [ea]
   rw [show tp w T (e' + 1) = tp { w with drawn:=w.drawn + 1 } T (e' + 1) from rfl,this]
   congr 2
   omega
 | sys c k ih =>
  rintro R w W s' (hn | h) hw ht
  ·exact .no (hn.no hw.np)
  ·exact h.elim
 | program k ih =>
  rintro R w W s' (hn | ⟨k',rfl,hk⟩) hw ht
  ·exact .no (hn.no hw.np)
  exact (ih _ hk hw ht).after (by rw [Sem.run]) rfl rfl λ T e => by rw [Sem.run]
 | mark m k ih =>
  rintro R w W s' (hn | ⟨rfl,k',rfl,hk⟩) hw ht
  ·exact .no (hn.no hw.np)
  exact (ih hk hw ht).after (by rw [Sem.run]) rfl rfl λ T e => by rw [Sem.run]
 | halt h =>
  rintro R w W s' _ hw ht
  exact .no λ x w' => by simp [Sem.run]
end Go.Tt
namespace Go.Tt
open Go.Conc (G)
structure Fm where
 fn : FuncId
 tmps : Array Value
 todo : List Item
 ret : Bool
def Fm.fr (m : Fm) : Frame:={ fn:=m.fn,tmps:=m.tmps,todo:=m.todo,defers:=[],mode:=if m.ret then .returning else .run,kind:=.normal }
def Fm.eval (m : Fm) : Operand -> Value
 | .tmp t => m.tmps.getD t undef
 | .const v => v
 | .global g => .pointer (some ⟨g,0,none⟩)
 | .func f => .func (.func f) #[] #[]
def Fm.fin (m : Fm) (ops : Array Oper) (i : Nat) (rest : List Nat) (k : List Item) (v : Value) : Fm:=
 { m with tmps:=match (ops[i]?).bind (·.dst) with | some d => m.tmps.setIfInBounds d v | none => m.tmps,todo:=.inRegion ops rest :: k }
def resOne (t : Array Value) : ResultVar -> Sem Value
 | .tmp s => pure (t.getD s undef)
 | .cell s ty => do loadVar ty (<- asAddr (t.getD s undef))
def resS : List ResultVar -> Array Value -> Sem Value
 | [],_ => pure (.tuple #[])
 | [a],t => resOne t a
 | [a,b],t => do
  let x <- resOne t a
  let y <- resOne t b
  pure (.tuple #[x,y])
 | [a,b,c],t => do
  let x <- resOne t a
  let y <- resOne t b
  let z <- resOne t c
  pure (.tuple #[x,y,z])
 | [a,b,c,d],t => do
  let x <- resOne t a
  let y <- resOne t b
  let z <- resOne t c
  let u <- resOne t d
  pure (.tuple #[x,y,z,u])
 | _,_ => stuck ""
def plainRes (l : List ResultVar) : Prop:=l = [] \/ (∃ a,l = [a]) \/ (∃ a b,l = [a,b]) \/ (∃ a b c,l = [a,b,c]) \/ ∃ a b c d,l = [a,b,c,d]
theorem results_resS {fn : Func} {tmps : Array Value} (h : plainRes fn.results.toList) : results fn tmps = resS fn.results.toList tmps:=by
 rcases h with e | ⟨a,e⟩ | ⟨a,b,e⟩ | ⟨a,b,c,e⟩ | ⟨a,b,c,d,e⟩
 ·have e' : fn.results = #[]:=Array.toList_inj.1 e
  simp [results,e',resS]
 ·have e' : fn.results = #[a]:=Array.toList_inj.1 e
  rw [e]
  cases a <;> simp [results,e',resS,resOne]
 ·have e' : fn.results = #[a,b]:=Array.toList_inj.1 e
  rw [e]
  cases a <;> cases b <;> simp [results,e',resS,resOne]
 ·have e' : fn.results = #[a,b,c]:=Array.toList_inj.1 e
  rw [e]
  cases a <;> cases b <;> cases c <;> simp [results,e',resS,resOne]
 ·have e' : fn.results = #[a,b,c,d]:=Array.toList_inj.1 e
  rw [e]
  cases a <;> cases b <;> cases c <;> cases d <;> simp [results,e',resS,resOne]
def TF {α : Type} (p : Program) (s : Sem α) : Prop:=∀ w x w',s.run p w = .ok x w' -> w' = w /\ ∀ T e,s.run p (tp w T e) = .ok x (tp w T e)
theorem TF.ret {α : Type} {p : Program} (a : α) : TF p (Pure.pure a : Sem α):=λ w x w' h => by
 simp only [Pure.pure,Sem.run,Result.ok.injEq] at h
 obtain ⟨rfl,rfl⟩:=h
 exact ⟨rfl,λ T e => rfl⟩
theorem TF.bnd {α β : Type} {p : Program} {s : Sem α} {f : α -> Sem β} (hs : TF p s) (hf : ∀ a,TF p (f a)) : TF p (s >>= f):=λ w x w' h => by
 have h2:=(Sem.run_bind' p s f w).symm.trans h
 cases hx : s.run p w with
 | halt y w2 => rw [hx] at h2; cases h2
 | ok a w1 =>
  rw [hx] at h2
  obtain ⟨rfl,h3⟩:=hs w a w1 hx
  obtain ⟨rfl,h4⟩:=hf a w1 x w' h2
  refine ⟨rfl,λ T e => (Sem.run_bind' p s f _).trans ?_⟩
  rw [h3 T e]
  exact h4 T e
theorem TF.halt {α : Type} {p : Program} {s : Sem α} (h : ∀ w x w',s.run p w ≠ .ok x w') : TF p s:=λ w x w' e => absurd e (h w x w')
theorem tf_stuck {α : Type} {p : Program} {why : String} : TF p (stuck why : Sem α):=TF.halt λ w x w' e => by simp [stuck,Sem.run] at e
theorem tf_program {p : Program} : TF p program:=λ w x w' h => by
 simp only [program,Sem.run,Result.ok.injEq] at h
 obtain ⟨rfl,rfl⟩:=h
 exact ⟨rfl,λ T e => rfl⟩
theorem tf_load {p : Program} (a : Addr) : TF p (load a):=λ w x w' h => by
 unfold load at h ⊢
 simp only [Sem.run] at h ⊢
 cases hc : w.cell? a with
 | none =>
  rw [hc] at h
  simp only at h
  cases hf : World.farLoad p w a (Mode.plain == Mode.atomic) with
  | error y => rw [hf] at h; cases h
  | ok v =>
   rw [hf] at h
   simp only [Result.ok.injEq] at h
   refine ⟨h.2.symm,λ T e => ?_⟩
   have e1 : (tp w T e).cell? a = none:=hc
   have e2 : World.farLoad p (tp w T e) a (Mode.plain == Mode.atomic) = .ok v:=(show World.farLoad p (tp w T e) a (Mode.plain == Mode.atomic) = World.farLoad p w a (Mode.plain == Mode.atomic) from rfl).trans hf
   rw [e1,e2]
   simp only [h.1]
 | some v =>
  rw [hc] at h
  simp only [Result.ok.injEq] at h
  refine ⟨h.2.symm,λ T e => ?_⟩
  have : (tp w T e).cell? a = some v:=hc
  rw [this,h.1]
theorem tf_underlying {p : Program} (t : TypeId) : TF p (underlying t):=by
 unfold underlying
 refine tf_program.bnd λ q => ?_
 split
 ·exact .ret _
 ·exact tf_stuck
theorem tf_isAgg {p : Program} (t : TypeId) : TF p (isAgg t):=by
 unfold isAgg
 refine (tf_underlying t).bnd λ q => ?_
 split <;> exact .ret _
theorem tf_sizeOf {p : Program} (t : TypeId) : TF p (sizeOf t):=by
 unfold sizeOf typeInfo
 refine TF.bnd (tf_program.bnd λ q => ?_) λ i => .ret _
 split
 ·exact .ret _
 ·exact tf_stuck
theorem tf_loadCells {p : Program} (a : Addr) : ∀ (n i : Nat) (acc : Array Value),TF p (loadCellsFrom a i n acc)
 | 0,i,acc => .ret _
 | n + 1,i,acc => (tf_load _).bnd λ v => tf_loadCells a n (i + 1) (acc.push v)
theorem tf_loadVar {p : Program} (t : TypeId) (a : Addr) : TF p (loadVar t a):=by
 unfold loadVar
 refine (tf_isAgg t).bnd λ b => ?_
 split
 ·exact (tf_sizeOf t).bnd λ n => (tf_loadCells a n 0 #[]).bnd λ x => .ret _
 ·exact tf_load a
theorem tf_resOne {p : Program} (t : Array Value) (r : ResultVar) : TF p (resOne t r):=by
 cases r with
 | tmp s => exact .ret _
 | cell s ty =>
  refine TF.bnd ?_ λ a => tf_loadVar ty a
  unfold asAddr
  split
  ·exact .ret _
  ·exact TF.halt λ w x w' e => by simp [runtimePanic,goPanic,Sem.run,bind,Sem.bind,program] at e
  ·exact tf_stuck
theorem tf_resS {p : Program} (t : Array Value) : ∀ l : List ResultVar,TF p (resS l t)
 | [] => .ret _
 | [a] => tf_resOne t a
 | [a,b] => (tf_resOne t a).bnd λ x => (tf_resOne t b).bnd λ y => .ret _
 | [a,b,c] => (tf_resOne t a).bnd λ x => (tf_resOne t b).bnd λ y => (tf_resOne t c).bnd λ z => .ret _
 | [a,b,c,d] => (tf_resOne t a).bnd λ x => (tf_resOne t b).bnd λ y => (tf_resOne t c).bnd λ z => (tf_resOne t d).bnd λ u => .ret _
 | _ :: _ :: _ :: _ :: _ :: _ => tf_stuck
theorem resS_plain {p : Program} {l : List ResultVar} {t : Array Value} {w w' : World} {v : Value} (h : (resS l t).run p w = .ok v w') : plainRes l:=by
 match l,h with
 | [],_ => exact .inl rfl
 | [a],_ => exact .inr (.inl ⟨a,rfl⟩)
 | [a,b],_ => exact .inr (.inr (.inl ⟨a,b,rfl⟩))
 | [a,b,c],_ => exact .inr (.inr (.inr (.inl ⟨a,b,c,rfl⟩)))
 | [a,b,c,d],_ => exact .inr (.inr (.inr (.inr ⟨a,b,c,d,rfl⟩)))
 | a :: b :: c :: d :: e :: l,h => simp [resS,stuck,Sem.run] at h
def opS (p : Program) (m : Fm) (ms : List Fm) (ops : Array Oper) (i : Nat) (rest : List Nat) (k : List Item) : Next -> Sem (Fm × List Fm)
 | .value v => pure (m.fin ops i rest k v,ms)
 | .skip => pure (m.fin ops i rest k undef,ms)
 | .enter f args =>
  match p.funcs[f]? with
  | some fn => (match fn.body with
   | some c => pure (⟨f,args ++ Array.replicate (fn.ntmps - args.size) undef,[.code c],false⟩,m :: ms)
   | none => stuck "")
  | none => stuck ""
 | .comm cs false sh => do
  let v <- commS cs sh
  pure (m.fin ops i rest k v,ms)
 | _ => stuck ""
def retS (p : Program) (m : Fm) : List Fm -> Sem (Fm × List Fm)
 | [] => stuck ""
 | c :: rest =>
  match c.todo,p.funcs[m.fn]? with
  | .inRegion ops (i :: r) :: k,some fn => do
   let v <- resS fn.results.toList m.tmps
   pure (c.fin ops i r k v,rest)
  | _,_ => stuck ""
theorem retS_inv {p : Program} {m c m1 : Fm} {rest ms1 : List Fm} {w w1 : World} (h : (retS p m (c :: rest)).run p w = .ok (m1,ms1) w1) :
  ∃ ops i r k v fn,c.todo = .inRegion ops (i :: r) :: k /\ p.funcs[m.fn]? = some fn /\ (resS fn.results.toList m.tmps).run p w = .ok v w1 /\ m1 = c.fin ops i r k v /\ ms1 = rest:=by
 unfold retS at h
 simp only at h
 split at h
 ·next ops i r k fn hc hf =>
  have h2:=(Sem.run_bind' p _ _ w).symm.trans h
  cases hx : (resS fn.results.toList m.tmps).run p w with
  | halt y w2 => rw [hx] at h2; cases h2
  | ok v w2 =>
   rw [hx] at h2
   simp only [Result.andThen,Pure.pure,Sem.run,Result.ok.injEq,Prod.mk.injEq] at h2
   obtain ⟨⟨rfl,rfl⟩,rfl⟩:=h2
   exact ⟨ops,i,r,k,v,fn,hc,hf,hx,rfl,rfl⟩
 ·simp [stuck,Sem.run] at h
theorem retS_mk {p : Program} {m c : Fm} {rest : List Fm} {w w1 : World} {ops : Array Oper} {i : Nat} {r : List Nat} {k : List Item} {v : Value} {fn : Func} (hc : c.todo = .inRegion ops (i :: r) :: k) (hf : p.funcs[m.fn]? = some fn) (hv : (resS fn.results.toList m.tmps).run p w = .ok v w1) :
  (retS p m (c :: rest)).run p w = .ok (c.fin ops i r k v,rest) w1 /\ ∀ es,(retS p m (c :: rest)).events p w es = (resS fn.results.toList m.tmps).events p w es:=by
 unfold retS
 simp only [hc,hf]
 constructor
 ·refine (Sem.run_bind' p _ _ w).trans ?_
  rw [hv]; rfl
 ·intro es
  refine (Sem.events_bind' p _ _ w es).trans ?_
  rw [hv,Result.evThen_ok]; rfl
def runS (p : Program) (m : Fm) (ms : List Fm) : Sem (Fm × List Fm):=
 match m.todo with
 | [] => pure ({ m with ret:=true },ms)
 | .code .ret :: _ => pure ({ m with ret:=true },ms)
 | .code .skip :: k => pure ({ m with todo:=k },ms)
 | .code (.label _) :: k => pure ({ m with todo:=k },ms)
 | .inBlock _ :: k => pure ({ m with todo:=k },ms)
 | .inScope _ :: k => pure ({ m with todo:=k },ms)
 | .code (.seq a b) :: k => pure ({ m with todo:=.code a :: .code b :: k },ms)
 | .code (.cond c a b) :: k => (match m.eval c with
  | .bool t => pure ({ m with todo:=.code (if t then a else b) :: k },ms)
  | _ => stuck "")
 | .code (.block id body) :: k => pure ({ m with todo:=.code body :: .inBlock id :: k },ms)
 | .code (.loop body) :: k => pure ({ m with todo:=.code body :: .inLoop body :: k },ms)
 | .inLoop body :: k => pure ({ m with todo:=.code body :: .inLoop body :: k },ms)
 | .code (.scope body) :: k => pure ({ m with todo:=.code body :: .inScope body :: k },ms)
 | .code (.exit id) :: k => (match exitTo id k with
  | some k' => pure ({ m with todo:=k' },ms)
  | none => stuck "")
 | .code (.region id ops draw) :: k =>
  if draw then do
   let t <- choose (.order m.fn id)
   pure ({ m with todo:=.inRegion ops (Region.schedule (p.follows .mixedOrders) ops t) :: k },ms)
  else pure ({ m with todo:=.inRegion ops (List.range ops.size) :: k },ms)
 | .inRegion _ [] :: k => pure ({ m with todo:=k },ms)
 | .inRegion ops (i :: rest) :: k =>
  if ((ops[i]?).map (Region.wanted · (yielded ops m.tmps))).getD false then
   match ops[i]? with
   | some o => do
    let n <- execOp m.eval o
    opS p m ms ops i rest k n
   | none => stuck ""
  else pure (m.fin ops i rest k undef,ms)
 | _ => stuck ""
def stepS (p : Program) (m : Fm) (ms : List Fm) : Sem (Fm × List Fm):=if m.ret then retS p m ms else runS p m ms
theorem Fm.eval_fr (m : Fm) : m.fr.eval = m.eval:=by funext x; cases x <;> rfl
theorem Fm.fr_run {m : Fm} (h : m.ret = false) : m.fr = { fn:=m.fn,tmps:=m.tmps,todo:=m.todo,defers:=[],mode:=.run,kind:=.normal }:=by simp [Fm.fr,h]
theorem Fm.fr_ret {m : Fm} (h : m.ret = true) : m.fr = { fn:=m.fn,tmps:=m.tmps,todo:=m.todo,defers:=[],mode:=.returning,kind:=.normal }:=by simp [Fm.fr,h]
theorem finish_fr {m : Fm} {ops : Array Oper} {i : Nat} {rest : List Nat} {k : List Item} (h : m.todo = .inRegion ops (i :: rest) :: k) (v : Value) : m.fr.finish v = (m.fin ops i rest k v).fr:=by
 simp only [Frame.finish,Fm.fr,Fm.fin,h]
 cases (ops[i]?).bind (·.dst) <;> rfl
theorem enter_fr {p : Program} {f : FuncId} {fn : Func} {c : Code} {args : Array Value} (hf : p.funcs[f]? = some fn) (hb : fn.body = some c) :
  Frame.enter p f args .normal = (⟨f,args ++ Array.replicate (fn.ntmps - args.size) undef,[.code c],false⟩ : Fm).fr:=by
 simp [Frame.enter,Fm.fr,hf,hb]
def CommStep (p : Program) (m m' : Fm) (ms ms' : List Fm) (w w' : World) : Prop:=
 ∃ (ops : Array Oper) (i : Nat) (rest : List Nat) (k : List Item) (o : Oper) (cs : Array CommCase) (sh : CommShape) (v : Value) (wm : World),m.ret = false /\ m.todo = .inRegion ops (i :: rest) :: k /\ ops[i]? = some o /\ Region.wanted o (yielded ops m.tmps) = true /\
  (execOp m.eval o).run p w = .ok (.comm cs false sh) wm /\ (commS cs sh).run p wm = .ok v w' /\ m' = m.fin ops i rest k v /\ ms' = ms
theorem CommStep.stepG {p : Program} {main : Bool} {m m' : Fm} {ms ms' : List Fm} {w w' : World} (h : CommStep p m m' ms ms' w w') (base : List Frame) :
  ∃ o cs sh v wm,(execOp m.eval o).run p w = .ok (.comm cs false sh) wm /\ stepG p main (G m.fr (ms.map Fm.fr ++ base)) w = .comm (G m.fr (ms.map Fm.fr ++ base)) cs false sh wm (seen p m.fn ((execOp m.eval o).events p w #[])) /\ (commS cs sh).run p wm = .ok v w' /\ m'.fr = m.fr.finish v /\ ms' = ms /\
   (∀ (e : Event),e ∈ (execOp m.eval o).events p w #[] -> e ∈ (stepS p m ms).events p w #[]):=by
 obtain ⟨ops,i,rest,k,o,cs,sh,v,wm,hr,ht,ho,hw,hx,hc,rfl,rfl⟩:=h
 refine ⟨o,cs,sh,v,wm,hx,?_,hc,(finish_fr ht v).symm,rfl,λ e he => ?_⟩
 ·obtain ⟨fn,tmps,todo,ret⟩:=m
  simp only at hr ht hw
  subst hr ht
  have hae' : Act.eval ⟨tmps,[]⟩ = Fm.eval { fn:=fn,tmps:=tmps,todo:=Item.inRegion ops (i :: rest) :: k,ret:=false }:=funext λ x => by cases x <;> rfl
  have:=Conc.stepG_comm (P:=p) (main:=main) (b:=Conc.base fn) (a:=⟨tmps,[]⟩) (rest:=rest) (k:=k) (cs:=List.map Fm.fr ms' ++ base) (w:=w) ho hw (by simp [Conc.base]) (by rw [hae']; exact hx)
  unfold Conc.listed at this
  rw [hae'] at this
  exact this
 ·have hevb:=Sem.events_bind' p (execOp m.eval o) (opS p m ms' ops i rest k) w #[]
  rw [hx,Result.evThen_ok] at hevb
  have hst : stepS p m ms' = (execOp m.eval o >>= opS p m ms' ops i rest k):=by
   simp only [stepS,hr,Bool.false_eq_true,if_false,runS,ht,ho,Option.map_some,Option.getD_some,hw,if_true]
  rw [hst]
  have h2 : (execOp m.eval o >>= opS p m ms' ops i rest k).events p w #[] = _:=hevb
  rw [h2,Sem.events_acc]
  exact Array.mem_append_left _ he
theorem stepG_stepS {p : Program} {main : Bool} {m m' : Fm} {ms ms' : List Fm} {w w' : World} (h : (stepS p m ms).run p w = .ok (m',ms') w') (base : List Frame) :
  stepG p main (G m.fr (ms.map Fm.fr ++ base)) w = .go (G m'.fr (ms'.map Fm.fr ++ base)) w' (seen p m.fn ((stepS p m ms).events p w #[])) \/ CommStep p m m' ms ms' w w':=by
 have none0 : seen p m.fn #[] = #[]:=Conc.seen_none p _
 unfold stepS at h ⊢
 by_cases hr : m.ret = true
 ·simp only [hr,if_true] at h ⊢
  cases ms with
  | nil => simp [retS,stuck,Sem.run] at h
  | cons c rest =>
   obtain ⟨ops,i,r,k,v,fn,hc,hf,hv,rfl,rfl⟩:=retS_inv h
   rw [(retS_mk hc hf hv).2]
   have he : results fn m.tmps = resS fn.results.toList m.tmps:=results_resS (resS_plain hv)
   rw [Fm.fr_ret hr,List.map_cons,List.cons_append]
   have hfin : c.fr.finish v = (c.fin ops i r k v).fr:=finish_fr hc v
   rw [<- hfin]
   simp [G,stepG,unwind,doReturn,hf,he,hv,GStep.after]
 ·have hr' : m.ret = false:=by simpa using hr
  simp only [hr',Bool.false_eq_true,if_false] at h ⊢
  have hev : m.fr.eval = m.eval:=m.eval_fr
  rw [Fm.fr_run hr'] at hev ⊢
  obtain ⟨fn,tmps,todo,ret⟩:=m
  simp only at hr' hr none0 hev ⊢
  subst hr'
  unfold runS at h ⊢
  simp only at h ⊢
  split at h
  all_goals first
   | (simp [stuck,Sem.run] at h; done)
   | (
     simp only [Pure.pure,Sem.run,Result.ok.injEq,Prod.mk.injEq] at h
     obtain ⟨⟨rfl,rfl⟩,rfl⟩:=h
     simp [G,stepG,stepG.exec,Fm.fr,none0,GStep.after]
     done)
   | skip
  case h_8 _ c a b k =>
   generalize hv : Fm.eval { fn:=fn,tmps:=tmps,todo:=Item.code (Code.cond c a b) :: k,ret:=false } c = v at h ⊢
   have hc : Frame.eval { fn:=fn,tmps:=tmps,todo:=Item.code (Code.cond c a b) :: k,defers:=[],mode:=.run,kind:=.normal } c = v:=(congrFun hev c).trans hv
   cases v with
   | bool t =>
    simp only [Pure.pure,Sem.run,Result.ok.injEq,Prod.mk.injEq] at h
    obtain ⟨⟨rfl,rfl⟩,rfl⟩:=h
    simp [G,stepG,stepG.exec,Fm.fr,none0,hc]
   | _ => simp [stuck,Sem.run] at h
  case h_13 _ id k =>
   cases he : exitTo id k with
   | some k' =>
    rw [he] at h
    simp only [Pure.pure,Sem.run,Result.ok.injEq,Prod.mk.injEq] at h
    obtain ⟨⟨rfl,rfl⟩,rfl⟩:=h
    simp [G,stepG,stepG.exec,Fm.fr,none0,he]
   | none => rw [he] at h; simp [stuck,Sem.run] at h
  case h_14 _ id ops draw k =>
   cases draw with
   | true =>
    simp [choose,Sem.run,Question.forced,Question.cut,bind,Sem.bind,pure] at h
    obtain ⟨⟨rfl,rfl⟩,rfl⟩:=h
    simp [G,stepG,stepG.exec,Fm.fr,none0,choose,Sem.run,Question.forced,Question.cut,Sem.events,Sem.runT,bind,Sem.bind,pure]
   | false =>
    simp only [Bool.false_eq_true,if_false,Pure.pure,Sem.run,Result.ok.injEq,Prod.mk.injEq] at h
    obtain ⟨⟨rfl,rfl⟩,rfl⟩:=h
    simp [G,stepG,stepG.exec,Fm.fr,none0]
  case h_16 _ ops i rest k =>
   have hae : ∀ x,Act.eval ⟨tmps,[]⟩ x = Fm.eval { fn:=fn,tmps:=tmps,todo:=Item.inRegion ops (i :: rest) :: k,ret:=false } x:=λ x => by cases x <;> rfl
   have hae' : Act.eval ⟨tmps,[]⟩ = Fm.eval { fn:=fn,tmps:=tmps,todo:=Item.inRegion ops (i :: rest) :: k,ret:=false }:=funext hae
   have hfin : ∀ v,(Conc.base fn).at (Act.put ⟨tmps,[]⟩ ((ops[i]?).bind (·.dst)) v) (.inRegion ops rest :: k) = (Fm.fin { fn:=fn,tmps:=tmps,todo:=Item.inRegion ops (i :: rest) :: k,ret:=false } ops i rest k v).fr:=λ v => by
    unfold Fm.fin Act.put
    cases (ops[i]?).bind (·.dst) <;> rfl
   have hb : (Conc.base fn).kind ≠ .early:=by simp [Conc.base]
   cases ho : ops[i]? with
   | none =>
    rw [ho] at h
    simp only [Option.map_none,Option.getD_none,Bool.false_eq_true,if_false,Pure.pure,Sem.run,Result.ok.injEq,Prod.mk.injEq] at h
    obtain ⟨⟨rfl,rfl⟩,rfl⟩:=h
    have hff:=finish_fr (m:={ fn:=fn,tmps:=tmps,todo:=Item.inRegion ops (i :: rest) :: k,ret:=false }) rfl undef
    have hfr : (Fm.fr { fn:=fn,tmps:=tmps,todo:=Item.inRegion ops (i :: rest) :: k,ret:=false }) = { fn:=fn,tmps:=tmps,todo:=Item.inRegion ops (i :: rest) :: k,defers:=[],mode:=.run,kind:=.normal }:=rfl
    rw [hfr] at hff
    simp [G,stepG,stepG.exec,none0,ho,hff]
   | some o =>
    rw [ho] at h
    simp only [ho,Option.bind_some] at hfin
    simp only [Option.map_some,Option.getD_some] at h ⊢
    by_cases hw : Region.wanted o (yielded ops tmps) = true
    ·rw [if_pos hw] at h
     rw [if_pos hw]
     have hrb:=Sem.run_bind' p (execOp (Fm.eval { fn:=fn,tmps:=tmps,todo:=Item.inRegion ops (i :: rest) :: k,ret:=false }) o) (opS p { fn:=fn,tmps:=tmps,todo:=Item.inRegion ops (i :: rest) :: k,ret:=false } ms ops i rest k) w
     have h':=hrb.symm.trans h
     have hevb:=Sem.events_bind' p (execOp (Fm.eval { fn:=fn,tmps:=tmps,todo:=Item.inRegion ops (i :: rest) :: k,ret:=false }) o) (opS p { fn:=fn,tmps:=tmps,todo:=Item.inRegion ops (i :: rest) :: k,ret:=false } ms ops i rest k) w #[]
     cases hx : (execOp (Fm.eval { fn:=fn,tmps:=tmps,todo:=Item.inRegion ops (i :: rest) :: k,ret:=false }) o).run p w with
     | halt y w1 => rw [hx] at h'; cases h'
     | ok n w1 =>
      rw [hx] at h' hevb
      have hx' : (execOp (Act.eval ⟨tmps,[]⟩) o).run p w = .ok n w1:=by rw [hae']; exact hx
      have hl : Conc.listed p fn ⟨tmps,[]⟩ o w = seen p fn ((execOp (Fm.eval { fn:=fn,tmps:=tmps,todo:=Item.inRegion ops (i :: rest) :: k,ret:=false }) o).events p w #[]):=by unfold Conc.listed; rw [hae']
      have h2 : (opS p { fn:=fn,tmps:=tmps,todo:=Item.inRegion ops (i :: rest) :: k,ret:=false } ms ops i rest k n).run p w1 = .ok (m',ms') w':=h'
      have fine : ∀ (r : Fm × List Fm) (K : Sem (Fm × List Fm)),opS p { fn:=fn,tmps:=tmps,todo:=Item.inRegion ops (i :: rest) :: k,ret:=false } ms ops i rest k n = Pure.pure r ->
        (m',ms') = r /\ w' = w1 /\ seen p fn ((do let n <- execOp (Fm.eval { fn:=fn,tmps:=tmps,todo:=Item.inRegion ops (i :: rest) :: k,ret:=false }) o; opS p { fn:=fn,tmps:=tmps,todo:=Item.inRegion ops (i :: rest) :: k,ret:=false } ms ops i rest k n : Sem (Fm × List Fm)).events p w #[]) = Conc.listed p fn ⟨tmps,[]⟩ o w:=λ r _ e => by
       rw [e] at h2
       simp only [Pure.pure,Sem.run,Result.ok.injEq] at h2
       refine ⟨h2.1.symm,h2.2.symm,?_⟩
       rw [hl]
       congr 1
       refine hevb.trans ?_
       rw [Result.evThen_ok,e]; rfl
      cases n with
      | value v =>
       obtain ⟨e1,rfl,e3⟩:=fine _ (stuck "") rfl
       injection e1 with e1 e2
       subst e1 e2
       rw [e3]
       have:=Conc.stepG_value (main:=main) (b:=Conc.base fn) (a:=⟨tmps,[]⟩) (rest:=rest) (k:=k) (cs:=List.map Fm.fr ms' ++ base) ho hw hb hx'
       rw [hfin] at this
       exact .inl this
      | skip =>
       obtain ⟨e1,rfl,e3⟩:=fine _ (stuck "") rfl
       injection e1 with e1 e2
       subst e1 e2
       rw [e3]
       have:=Conc.stepG_none (main:=main) (b:=Conc.base fn) (a:=⟨tmps,[]⟩) (rest:=rest) (k:=k) (cs:=List.map Fm.fr ms' ++ base) ho hw hb hx'
       rw [hfin] at this
       exact .inl this
      | enter f args =>
       have h3:=h2
       simp only [opS] at h3
       cases hf : p.funcs[f]? with
       | none => rw [hf] at h3; simp [stuck,Sem.run] at h3
       | some fn2 =>
        cases hbd : fn2.body with
        | none => rw [hf] at h3; simp only [hbd] at h3; simp [stuck,Sem.run] at h3
        | some c =>
         obtain ⟨e1,rfl,e3⟩:=fine _ (stuck "") (by simp only [opS,hf,hbd]; rfl)
         injection e1 with e1 e2
         subst e1 e2
         rw [e3]
         have:=Conc.stepG_enter (main:=main) (b:=Conc.base fn) (a:=⟨tmps,[]⟩) (rest:=rest) (k:=k) (cs:=List.map Fm.fr ms ++ base) ho hw hb hx'
         rw [enter_fr hf hbd] at this
         exact .inl this
      | comm cs b sh =>
       cases b with
       | true => simp [opS,stuck,Sem.run] at h2
       | false =>
        obtain ⟨v,w2,q1,q2⟩:=bind_ok (s:=commS cs sh) h2
        simp only [Pure.pure,Sem.run,Result.ok.injEq,Prod.mk.injEq] at q2
        obtain ⟨⟨q2,q3⟩,q4⟩:=q2
        subst q4
        exact .inr ⟨ops,i,rest,k,o,cs,sh,v,w1,rfl,rfl,ho,hw,hx,q1,q2.symm,q3.symm⟩
      | _ => simp [opS,stuck,Sem.run] at h2
    ·rw [if_neg hw] at h
     rw [if_neg hw]
     simp only [Pure.pure,Sem.run,Result.ok.injEq,Prod.mk.injEq] at h
     obtain ⟨⟨rfl,rfl⟩,rfl⟩:=h
     have:=Conc.stepG_unwanted (P:=p) (main:=main) (b:=Conc.base fn) (a:=⟨tmps,[]⟩) (rest:=rest) (k:=k) (cs:=List.map Fm.fr ms ++ base) (w:=w) ho (by simpa using hw)
     rw [hfin] at this
     rw [show seen p fn (Sem.events p (Pure.pure (Fm.fin { fn:=fn,tmps:=tmps,todo:=Item.inRegion ops (i :: rest) :: k,ret:=false } ops i rest k undef,ms) : Sem (Fm × List Fm)) w #[]) = #[] from none0]
     exact .inl this
end Go.Tt
namespace Go.Tt
def fitItem (p : Program) (q : Cl) : Item -> Bool
 | .code c | .inLoop c | .inScope c => fitCode p q c
 | .inBlock _ => true
 | .inRegion ops _ => ops.all λ o => okOp p q o.op
 | _ => false
def Wait (m : Fm) : Prop:=m.ret = false /\ ∃ ops i r k,m.todo = .inRegion ops (i :: r) :: k
section
variable (P : Pair) (fs : FuncId -> Bool) (K R : Pr)
structure FmR (m m' : Fm) : Prop where
 fn : m.fn = m'.fn
 todo : m.todo = m'.todo
 ret : m.ret = m'.ret
 tmps : ArR (SF fs) K R m.tmps m'.tmps
 fit : ∀ i ∈ m.todo,fitItem P.c (cls P fs m.fn) i = true
 infs : ∃ fn fn',P.g.funcs[m.fn]? = some fn /\ P.c.funcs[m.fn]? = some fn' /\ fn.results = fn'.results /\ plainRes fn.results.toList
inductive MsR : List Fm -> List Fm -> Prop
 | nil : MsR [] []
 | cons {m m' : Fm} {ms ms' : List Fm} : FmR P fs K R m m' -> Wait m -> MsR ms ms' -> MsR (m :: ms) (m' :: ms')
end
structure Fit2 (P : Pair) (fs : FuncId -> Bool) : Prop extends Fit P fs where
 res : ∀ f,P.gs f = true -> P.op f = false -> ∀ fn,P.c.funcs[f]? = some fn -> plainRes fn.results.toList
 follows : P.g.follows .mixedOrders = P.c.follows .mixedOrders
section
variable {P : Pair} {fs : FuncId -> Bool} {K R R' : Pr}
theorem FmR.mono (h : R.le R') {m m' : Fm} (x : FmR P fs K R m m') : FmR P fs K R' m m':=⟨x.fn,x.todo,x.ret,x.tmps.mono h,x.fit,x.infs⟩
theorem MsR.mono (h : R.le R') {ms ms' : List Fm} (x : MsR P fs K R ms ms') : MsR P fs K R' ms ms':=by
 induction x with
 | nil => exact .nil
 | cons a b _ ih => exact .cons (a.mono h) b ih
theorem vr_undef {S : FuncId -> Prop} : VR S K R undef undef:=.tuple rfl (λ i v v' h => by simp at h)
theorem FmR.eval {m m' : Fm} (x : FmR P fs K R m m') : ∀ o,okX fs o = true -> VR (SF fs) K R (m.eval o) (m'.eval o):=by
 intro o ho
 cases o with
 | tmp t => exact x.tmps.getD t vr_undef
 | const v => exact okConst_ok ho
 | global g => cases ho
 | func f => exact .func ho rfl (λ i v v' h => by simp at h) rfl (λ i v v' h => by simp at h)
def entF (p : Program) (f : FuncId) (xs : Array Value) : Fm:=
 match p.funcs[f]? with
 | some fn => (match fn.body with
  | some c => ⟨f,xs ++ Array.replicate (fn.ntmps - xs.size) undef,[.code c],false⟩
  | none => ⟨f,xs,[],false⟩)
 | none => ⟨f,xs,[],false⟩
structure OpR (P : Pair) (fs : FuncId -> Bool) (K R : Pr) (x y : Fm × List Fm) : Prop where
 ex : ∃ f xs xs' c c' rest rest',P.op f = true /\ P.gs f = true /\ ArR (SF fs) K R xs xs' /\ x = (entF P.g f xs,c :: rest) /\ y = (entF P.c f xs',c' :: rest') /\ FmR P fs K R c c' /\ Wait c /\ MsR P fs K R rest rest' /\ P.lw c.fn = false
abbrev StA (P : Pair) (fs : FuncId -> Bool) (K : Pr) (l : Bool) : Pr -> (Fm × List Fm) -> (Fm × List Fm) -> Prop:=λ R x y =>
 (FmR P fs K R x.1 y.1 /\ MsR P fs K R x.2 y.2 /\ (l = true -> P.lw x.1.fn = true /\ ∀ c ∈ x.2,P.lw c.fn = true)) \/ (l = false /\ OpR P fs K R x y)
theorem FmR.fin {m m' : Fm} (x : FmR P fs K R m m') {ops : Array Oper} {i : Nat} {rest : List Nat} {k : List Item} (h : m.todo = .inRegion ops (i :: rest) :: k) {v v' : Value} (hv : VR (SF fs) K R v v') :
  FmR P fs K R (m.fin ops i rest k v) (m'.fin ops i rest k v'):=by
 refine ⟨x.fn,rfl,x.ret,?_,λ j hj => ?_,x.infs⟩
 ·unfold Fm.fin
  cases (ops[i]?).bind (·.dst) with
  | none => exact x.tmps
  | some d => exact x.tmps.set d hv
 ·simp only [Fm.fin,List.mem_cons] at hj
  rcases hj with rfl | hj
  ·have:=x.fit (.inRegion ops (i :: rest)) (by rw [h]; simp)
   exact this
  ·exact x.fit j (by rw [h]; simp [hj])
abbrev LowS (P : Pair) (l : Bool) (m : Fm) (ms : List Fm) : Prop:=l = true -> P.lw m.fn = true /\ ∀ c ∈ ms,P.lw c.fn = true
theorem ArR.pad {xs xs' : Array Value} (ha : ArR (SF fs) K R xs xs') (n : Nat) : ArR (SF fs) K R (xs ++ Array.replicate (n - xs.size) undef) (xs' ++ Array.replicate (n - xs'.size) undef):=by
 rw [ha.1]
 refine ha.append ⟨by simp,λ j v v' h1 h2 => ?_⟩
 rw [Array.getElem?_replicate] at h1 h2
 split at h1
 ·rename_i hj
  rw [if_pos hj] at h2
  cases h1; cases h2; exact vr_undef
 ·cases h1
theorem cls_gs (F : Fit P fs) (g : FuncId) : ∀ f,(cls P fs g).gs f = true -> P.gs f = true:=λ f h => by
 unfold cls at h
 split at h
 ·exact (F.low f h).2
 ·exact h
theorem cls_dy (F : Fit P fs) (g : FuncId) : (cls P fs g).dy = true -> ∀ f,fs f = true -> (cls P fs g).gs f = true:=λ h f hf => by
 unfold cls at h ⊢
 split at h
 ·cases h
 ·next e => rw [if_neg e]; exact F.dyn h f hf
theorem sim_opS (F : Fit2 P fs) {l : Bool} {m m' : Fm} {ms ms' : List Fm} (hm : FmR P fs K R m m') (hms : MsR P fs K R ms ms') (hlow : LowS P l m ms) (hr : m.ret = false) {ops : Array Oper} {i : Nat} {rest : List Nat} {k : List Item} (h : m.todo = .inRegion ops (i :: rest) :: k) {n n' : Next} (hn : NxR (SF fs) (cls P fs m.fn).T K R n n') :
  Sim P (SF fs) K (StA P fs K l) (opS P.g m ms ops i rest k n) R (opS P.c m' ms' ops i rest k n'):=by
 cases hn with
 | value hv => exact Sim.ret (.inl ⟨hm.fin h hv,hms,hlow⟩)
 | skip => exact Sim.ret (.inl ⟨hm.fin h vr_undef,hms,hlow⟩)
 | comm hcs =>
  refine Sim.bnd (sim_commS _ hcs) λ R1 h1 v v' hv => ?_
  exact Sim.ret (.inl ⟨(hm.mono h1.le).fin h hv,hms.mono h1.le,hlow⟩)
 | enter hT ha =>
  rename_i f xs xs'
  have hlf : P.lw m.fn = true -> P.lw f = true:=λ e => by
   unfold cls at hT
   rw [if_pos e] at hT
   exact hT
  have hf : P.gs f = true:=cls_gs F.toFit m.fn f hT
  cases ho : P.op f with
  | false =>
   obtain ⟨fn,c,e1,e2,e3,e4,e5⟩:=F.fn f hf ho
   simp only [opS,e1,e2,e4]
   refine Sim.ret (.inl ⟨⟨rfl,rfl,rfl,ha.pad _,λ j hj => ?_,⟨fn,fn,e1,e2,rfl,F.res f hf ho fn e2⟩⟩,.cons hm ⟨hr,ops,i,rest,k,h⟩ hms,λ e => ⟨hlf (hlow e).1,λ c hc => ?_⟩⟩)
   ·simp only [List.mem_cons,List.not_mem_nil,or_false] at hj
    subst hj; exact e5
   ·simp only [List.mem_cons] at hc
    rcases hc with rfl | hc
    ·exact (hlow e).1
    ·exact (hlow e).2 c hc
  | true =>
   obtain ⟨fn,fn',c,c',e1,e2,e3,e4,e5,e6⟩:=F.opq f hf ho
   have hl0 : P.lw m.fn = false:=by
    cases hq : P.lw m.fn with
    | false => rfl
    | true => have:=(F.low f (hlf hq)).1; rw [ho] at this; cases this
   have hl : l = false:=by
    cases l with
    | false => rfl
    | true => have:=(hlow rfl).1; rw [hl0] at this; cases this
   simp only [opS,e1,e2,e5,e6]
   refine Sim.ret (.inr ⟨hl,⟨f,xs,xs',m,m',ms,ms',ho,hf,ha,?_,?_,hm,⟨hr,ops,i,rest,k,h⟩,hms,hl0⟩⟩)
   ·have : P.g.funcs[f]? = some fn:=e1
    simp only [entF,this,e5]
   ·simp only [entF,e2,e6]
theorem sim_resOne {S : FuncId -> Prop} {xs xs' : Array Value} (h : ArR S K R xs xs') (a : ResultVar) : Sim P S K (VA S K) (resOne xs a) R (resOne xs' a):=by
 cases a with
 | tmp t => exact Sim.ret (h.getD t vr_undef)
 | cell s ty =>
  refine Sim.bnd (sim_asAddr (h.getD s vr_undef)) ?_
  intro R1 e1 a a' ha
  exact sim_loadVar ty ha
theorem sim_resS {S : FuncId -> Prop} {xs xs' : Array Value} (h : ArR S K R xs xs') : ∀ l : List ResultVar,Sim P S K (VA S K) (resS l xs) R (resS l xs')
 | [] => Sim.ret (.tuple' ArR.empty)
 | [a] => sim_resOne h a
 | [a,b] => by
  refine Sim.bnd (sim_resOne h a) ?_
  intro R1 e1 x x' hx
  refine Sim.bnd (sim_resOne (h.mono e1.le) b) ?_
  intro R2 e2 y y' hy
  exact Sim.ret (.tuple' ((ArR.one (hx.mono e2.le)).push hy))
 | [a,b,c] => by
  refine Sim.bnd (sim_resOne h a) ?_
  intro R1 e1 x x' hx
  refine Sim.bnd (sim_resOne (h.mono e1.le) b) ?_
  intro R2 e2 y y' hy
  refine Sim.bnd (sim_resOne ((h.mono e1.le).mono e2.le) c) ?_
  intro R3 e3 z z' hz
  exact Sim.ret (.tuple' (((ArR.one ((hx.mono e2.le).mono e3.le)).push (hy.mono e3.le)).push hz))
 | [a,b,c,d] => by
  refine Sim.bnd (sim_resOne h a) ?_
  intro R1 e1 x x' hx
  refine Sim.bnd (sim_resOne (h.mono e1.le) b) ?_
  intro R2 e2 y y' hy
  refine Sim.bnd (sim_resOne ((h.mono e1.le).mono e2.le) c) ?_
  intro R3 e3 z z' hz
  refine Sim.bnd (sim_resOne (((h.mono e1.le).mono e2.le).mono e3.le) d) ?_
  intro R4 e4 u u' hu
  exact Sim.ret (.tuple' ((((ArR.one (((hx.mono e2.le).mono e3.le).mono e4.le)).push ((hy.mono e3.le).mono e4.le)).push (hz.mono e4.le)).push hu))
 | _ :: _ :: _ :: _ :: _ :: _ => .inl never_stuck
theorem yielded_rel {S : FuncId -> Prop} (ops : Array Oper) {xs xs' : Array Value} (h : ArR S K R xs xs') : yielded ops xs = yielded ops xs':=by
 funext j
 unfold yielded
 cases hd : (ops[j]?).bind (·.dst) with
 | none => rfl
 | some d =>
  simp only [Option.bind_some]
  cases hx : xs[d]? with
  | none => rw [h.none hx]
  | some v =>
   obtain ⟨v',e,hv⟩:=h.get hx
   rw [e]
   cases hv with
   | junk hh => cases v' <;> first | exact hh.elim | rfl
   | _ => rfl
theorem exitTo_mem {id : Nat} : ∀ {k k' : List Item},exitTo id k = some k' -> ∀ i ∈ k',i ∈ k
 | [],_,h,_,_ => by simp [exitTo] at h
 | x :: k,k',h,i,hi => by
  have tail : exitTo id k = some k' -> i ∈ x :: k:=λ e => by simp [exitTo_mem e i hi]
  cases x <;> simp only [exitTo] at h <;> first | exact tail h | skip
  split at h
  ·cases h; simp [hi]
  ·exact tail h
theorem sim_stepS (F : Fit2 P fs) (hR : RelOk P K R) {l : Bool} {m m' : Fm} {ms ms' : List Fm} (hm : FmR P fs K R m m') (hms : MsR P fs K R ms ms') (hlow : LowS P l m ms) (hstop : m.ret = true -> ms ≠ []) :
  Sim P (SF fs) K (StA P fs K l) (stepS P.g m ms) R (stepS P.c m' ms'):=by
 unfold stepS
 rw [<- hm.ret]
 by_cases hr : m.ret = true
 ·simp only [hr,if_true]
  cases hms with
  | nil => exact absurd rfl (hstop hr)
  | cons hc hw hrest =>
   rename_i c c' rest rest'
   obtain ⟨_,ops,i,r,k,hk⟩:=hw
   obtain ⟨fn,fn',e1,e2,e3,e4⟩:=hm.infs
   unfold retS
   have hk' : c'.todo = .inRegion ops (i :: r) :: k:=hc.todo.symm.trans hk
   rw [<- hm.fn]
   simp only [hk,hk',e1,e2]
   rw [<- e3]
   refine Sim.bnd (sim_resS hm.tmps fn.results.toList) ?_
   intro R1 x1 v v' hv
   exact Sim.ret (.inl ⟨(hc.mono x1.le).fin hk hv,hrest.mono x1.le,λ e => ⟨(hlow e).2 c (by simp),λ x hx => (hlow e).2 x (by simp [hx])⟩⟩)
 ·have hr0 : m.ret = false:=by simpa using hr
  simp only [hr0,Bool.false_eq_true,if_false]
  have hr' : m'.ret = false:=hm.ret.symm.trans hr0
  unfold runS
  rw [<- hm.todo]
  have ok1 : ∀ {x y : Fm},FmR P fs K R x y -> x.fn = m.fn -> Sim P (SF fs) K (StA P fs K l) (Pure.pure (x,ms)) R (Pure.pure (y,ms')):=λ h e => Sim.ret (.inl ⟨h,hms,λ z => by rw [e]; exact hlow z⟩)
  have keep : ∀ (l : List Item),(∀ i ∈ l,fitItem P.c (cls P fs m.fn) i = true) -> FmR P fs K R { m with todo:=l } { m' with todo:=l }:=λ l hl => ⟨hm.fn,rfl,hm.ret,hm.tmps,hl,hm.infs⟩
  have hfit:=hm.fit
  have hmf:=hm.fn
  cases htd : m.todo with
  | nil => exact ok1 ⟨hm.fn,rfl,rfl,hm.tmps,λ i hi => (by simp at hi),hm.infs⟩ rfl
  | cons x k =>
   rw [htd] at hfit
   have hk : ∀ i ∈ k,fitItem P.c (cls P fs m.fn) i = true:=λ i hi => hfit i (by simp [hi])
   have hx : fitItem P.c (cls P fs m.fn) x = true:=hfit x (by simp)
   have two : ∀ (y z : Item),fitItem P.c (cls P fs m.fn) y = true -> fitItem P.c (cls P fs m.fn) z = true -> ∀ i ∈ y :: z :: k,fitItem P.c (cls P fs m.fn) i = true:=λ y z hy hz i hi => by
    simp only [List.mem_cons] at hi
    rcases hi with rfl | rfl | hi
    ·exact hy
    ·exact hz
    ·exact hk i hi
   have one : ∀ (y : Item),fitItem P.c (cls P fs m.fn) y = true -> ∀ i ∈ y :: k,fitItem P.c (cls P fs m.fn) i = true:=λ y hy i hi => by
    simp only [List.mem_cons] at hi
    rcases hi with rfl | hi
    ·exact hy
    ·exact hk i hi
   cases x with
   | code c =>
    cases c with
    | skip => exact ok1 (keep k hk) rfl
    | label l => exact ok1 (keep k hk) rfl
    | ret => exact ok1 ⟨hm.fn,rfl,rfl,hm.tmps,hfit,hm.infs⟩ rfl
    | seq a b =>
     simp only [fitItem,fitCode,Bool.and_eq_true] at hx
     exact ok1 (keep _ (two _ _ hx.1 hx.2)) rfl
    | cond c a b =>
     simp only [fitItem,fitCode,Bool.and_eq_true] at hx
     have hv:=hm.eval c (cls_fs P fs m.fn ▸ hx.1.1)
     simp only
     generalize m.eval c = v at hv ⊢
     generalize m'.eval c = v' at hv ⊢
     cases hv with
     | bool t =>
      refine ok1 (keep _ (one _ ?_)) rfl
      cases t
      ·exact hx.2
      ·exact hx.1.2
     | _ => exact .inl never_stuck
    | block id body => exact ok1 (keep _ (two _ _ hx rfl)) rfl
    | loop body => exact ok1 (keep _ (two _ _ hx hx)) rfl
    | scope body => exact ok1 (keep _ (two _ _ hx hx)) rfl
    | exit id =>
     simp only
     cases he : exitTo id k with
     | none => exact .inl never_stuck
     | some k' => exact ok1 (keep _ λ i hi => hk i (exitTo_mem he i hi)) rfl
    | region id ops draw =>
     simp only
     cases draw with
     | true =>
      simp only [if_true]
      rw [<- hmf]
      refine Sim.bnd (sim_choose _) ?_
      rintro R1 h1 t _ rfl
      rw [F.follows]
      exact Sim.ret (.inl ⟨hmf ▸ (keep (.inRegion ops (Region.schedule (P.c.follows .mixedOrders) ops t) :: k) (one (.inRegion ops (Region.schedule (P.c.follows .mixedOrders) ops t)) hx)).mono h1.le,hms.mono h1.le,hlow⟩)
     | false =>
      simp only [Bool.false_eq_true,if_false]
      exact ok1 (keep _ (one (.inRegion ops (List.range ops.size)) hx)) rfl
    | _ => cases hx
   | inBlock id => exact ok1 (keep k hk) rfl
   | inScope c => exact ok1 (keep k hk) rfl
   | inLoop c => exact ok1 (keep _ (two _ _ hx hx)) rfl
   | inRegion ops l =>
    cases l with
    | nil => exact ok1 (keep k hk) rfl
    | cons i rest =>
     simp only
     rw [<- yielded_rel ops hm.tmps]
     by_cases hw : ((ops[i]?).map (Region.wanted · (yielded ops m.tmps))).getD false = true
     ·rw [if_pos hw,if_pos hw]
      cases ho : ops[i]? with
      | none => exact .inl never_stuck
      | some o =>
       simp only
       have hok : okOp P.c (cls P fs m.fn) o.op = true:=by
        have hx':=Array.all_eq_true.1 hx i (Array.getElem?_eq_some_iff.1 ho).1
        rwa [(Array.getElem?_eq_some_iff.1 ho).2] at hx'
       refine Sim.bnd (sim_execOp F.toFit hR hm.eval (λ g => rfl) (λ g => rfl) (λ g => rfl) (λ g => rfl) (cls_fs P fs m.fn) (cls_gs F.toFit m.fn) (cls_dy F.toFit m.fn) hok) ?_
       intro R1 h1 n n' hn
       exact sim_opS F (hm.mono h1.le) (hms.mono h1.le) hlow hr0 htd hn
     ·rw [if_neg hw,if_neg hw]
      exact ok1 (hm.fin htd vr_undef) rfl
   | _ => cases hx
end
end Go.Tt
namespace Go.Proofs.YtkfafknliihabaaDoor
open Go.RowKit Go.Conc
section
variable {P : Program} {ops : Array Oper} {Q : Exit -> Act -> World -> Prop} {a : Act} {w w1 : World} {o : Oper} {rest : List Oper} {v : Value} {cases : Array CommCase} {id : Nat}
theorem wp_select_own (hops : ops.toList = o :: rest) (hg : o.guard = none) (hr : (execOp a.eval o).run P w = .ok (.comm cases false .select) w) (hc : (Tt.commS cases .select).run P w = .ok v w1)
  (h : wpList P ops Q rest (a.put o.dst v) w1) : (Code.region id ops false).wp P Q a w:=by
 refine wp_region_comm hops (λ b k cs => ?_) h
 obtain ⟨es,he⟩:=stepG_comm_any (b:=b) (k:=k) (cs:=cs) (i:=0) (r:=List.range' 1 rest.length) (first_op hops) (wanted_none hg) hr
 rw [<- finish_comm b k hops]
 exact Tt.step_solo_comm he hc
theorem comm_none (h : (Tt.readyS 0 cases.toList).run P w = .ok [] w) : (Tt.commS cases .select).run P w = .ok (commResult cases .select (-1) undef false) w:=by
 unfold Tt.commS
 refine (Sem.run_bind' P _ _ w).trans ?_
 rw [h]
 rfl
theorem comm_one {x : Nat × CommCase × Tt.CW} (h : (Tt.readyS 0 cases.toList).run P w = .ok [x] w) (ha : (Tt.actS cases .select x.1 x.2.1 x.2.2).run P w = .ok v w1) : (Tt.commS cases .select).run P w = .ok v w1:=by
 unfold Tt.commS
 refine (Sem.run_bind' P _ _ w).trans ?_
 rw [h]
 simp only [Result.andThen,List.isEmpty_cons,Bool.false_eq_true,if_false,List.length_cons,List.length_nil]
 refine (Sem.run_bind' P _ _ w).trans ?_
 have hq : (choose (.select (0 + 1))).run P w = .ok 0 w:=by simp [choose,Sem.run,Question.forced]
 rw [hq]
 simp only [Result.andThen,List.getElem?_cons_zero]
 exact ha
def wayL (k : Nat) (c : CommCase) : Option Tt.CW -> List (Nat × CommCase × Tt.CW)
 | some x => [(k,c,x)]
 | none => []
theorem ready_two {c1 c2 : CommCase} {a b : Option Tt.CW} (h1 : (Tt.wayS c1).run P w = .ok a w) (h2 : (Tt.wayS c2).run P w = .ok b w) :
  (Tt.readyS 0 [c1,c2]).run P w = .ok (wayL 0 c1 a ++ wayL 1 c2 b) w:=by
 unfold Tt.readyS
 refine (Sem.run_bind' P _ _ w).trans ?_
 rw [h1]
 simp only [Result.andThen]
 refine (Sem.run_bind' P _ _ w).trans ?_
 have h3 : (Tt.readyS (0 + 1) [c2]).run P w = .ok (wayL 1 c2 b) w:=by
  unfold Tt.readyS
  refine (Sem.run_bind' P _ _ w).trans ?_
  rw [h2]
  simp only [Result.andThen]
  refine (Sem.run_bind' P _ _ w).trans ?_
  cases b <;> rfl
 rw [h3]
 cases a <;> cases b <;> rfl
theorem way_rnil (z : Value) : (Tt.wayS (rcaseNil z)).run P w = .ok none w:=rfl
theorem way_snil (y z : Value) : (Tt.wayS (scaseNil y z)).run P w = .ok none w:=rfl
variable {c cap s r : Nat} {buf : Array Value} {cl tm : Bool}
theorem run_getCh (hc : w.heap[c]? = some (.chan cap buf cl s r tm)) : (getObj c).run P w = .ok (.chan cap buf cl s r tm) w:=by
 simp [getObj,Sem.run,hc]
theorem run_setCh (hc : w.heap[c]? = some (.chan cap buf cl s r tm)) (cap' s' r' : Nat) (buf' : Array Value) (cl' tm' : Bool) : (setObj c (.chan cap' buf' cl' s' r' tm')).run P w = .ok () { w with heap:=w.heap.setIfInBounds c (.chan cap' buf' cl' s' r' tm') }:=by
 simp [setObj,Sem.run,hc]
theorem way_rbuf (hc : w.heap[c]? = some (.chan cap buf cl s r tm)) (h : 0 < buf.size) (z : Value) : (Tt.wayS (rcase c z)).run P w = .ok (some .buffer) w:=by
 simp [Tt.wayS,rcase,go_sem,run_getCh hc,h]
theorem way_rshut (hc : w.heap[c]? = some (.chan cap #[] true s r tm)) (z : Value) : (Tt.wayS (rcase c z)).run P w = .ok (some .closed) w:=by
 simp [Tt.wayS,rcase,go_sem,run_getCh hc]
theorem way_sroom (hc : w.heap[c]? = some (.chan cap buf false s r tm)) (h : buf.size < cap) (y z : Value) : (Tt.wayS (scase c y z)).run P w = .ok (some .buffer) w:=by
 simp [Tt.wayS,scase,go_sem,run_getCh hc,h]
theorem comm_nils (z z' y : Value) : (Tt.commS #[rcaseNil z,scaseNil y z'] .select).run P w = .ok (.tuple #[goInt (-1),.bool false,z]) w:=
 (comm_none (cases:=#[rcaseNil z,scaseNil y z']) (ready_two (way_rnil _) (way_snil _ _))).trans (by simp [commResult,rcaseNil,scaseNil])
theorem comm_recv_buf (hc : w.heap[c]? = some (.chan cap buf cl s r tm)) (h : 0 < buf.size) (z z' y : Value) :
  (Tt.commS #[rcase c z,scaseNil y z'] .select).run P w = .ok (.tuple #[goInt 0,.bool true,buf.getD 0 undef]) (w.setChan c cap (buf.extract 1 buf.size) cl s (r + 1) tm):=by
 refine comm_one (x:=(0,rcase c z,.buffer)) (ready_two (way_rbuf hc h _) (way_snil _ _)) ?_
 simp [Tt.actS,rcase,scaseNil,go_sem,commResult,goInt,run_getCh hc,run_setCh hc,World.setChan]
theorem comm_recv_shut (hc : w.heap[c]? = some (.chan cap #[] true s r tm)) (z z' y : Value) :
  (Tt.commS #[rcase c z,scaseNil y z'] .select).run P w = .ok (.tuple #[goInt 0,.bool false,z]) w:=by
 refine comm_one (x:=(0,rcase c z,.closed)) (ready_two (way_rshut hc _) (way_snil _ _)) ?_
 simp [Tt.actS,rcase,scaseNil,go_sem,commResult,goInt]
theorem comm_send_room (hc : w.heap[c]? = some (.chan cap buf false s r tm)) (h : buf.size < cap) (z z' y : Value) :
  (Tt.commS #[rcaseNil z,scase c y z'] .select).run P w = .ok (.tuple #[goInt 1,.bool false,z]) (w.setChan c cap (buf.push y) false (s + 1) r tm):=by
 refine comm_one (x:=(1,scase c y z',.buffer)) (ready_two (way_rnil _) (way_sroom hc h _ _)) ?_
 simp [Tt.actS,scase,rcaseNil,go_sem,commResult,goInt,run_getCh hc,run_setCh hc,World.setChan]
end
end Go.Proofs.YtkfafknliihabaaDoor
namespace Go.Proofs.YtkfafknliihabaaDoor
open Go.RowKit Go.Conc Go.Sort
theorem readyLine_is {w : World} {base : Nat} {S : Sw} {ls : List Ln} (h : SwOk w base S ls) (hw : base <= w.heap.size) {d : DeedD} {l : Ln} (h0 : 0 <= d.a) (hl : ls[d.a.toNat]? = some l) (hact : (d.act.toList == putA || d.act.toList == takeA) = true) :
  Calls Tryd.prog 66 #[.pointer (some ⟨S.sp,0,none⟩),.agg #[.string d.act,.int .i64 d.a,.int .i64 d.b]] w λ e w' => ∃ o,e = .returned (.chan o) /\ (readyF l d = false -> o = none) /\ (readyF l d = true -> ∃ i c : Nat,d.a = (i : Int) + 1 /\ S.cs[i]? = some c /\ ls[i + 1]? = some l /\ o = some c) /\ Below w.heap.size w w':=by
 have hact' : d.act.toList = putA \/ d.act.toList = takeA:=by simpa using hact
 by_cases hz : d.a = 0
 ·have hF : readyF l d = false:=by unfold readyF; rw [if_pos hz]
  rw [hF]
  rcases hact' with ha | ha
  ·exact (ready0_put h hw hz ha).mono (by rintro e w' ⟨rfl,hb⟩; exact ⟨none,rfl,λ _ => rfl,λ e => (by cases e),hb⟩)
  ·exact (ready0_take h hw hz ha).mono (by rintro e w' ⟨rfl,hb⟩; exact ⟨none,rfl,λ _ => rfl,λ e => (by cases e),hb⟩)
 ·obtain ⟨i,hi⟩ : ∃ i : Nat,d.a = (i : Int) + 1:=⟨(d.a - 1).toNat,by omega⟩
  have hi' : d.a.toNat = i + 1:=by omega
  rw [hi'] at hl
  have hlen:=(List.getElem?_eq_some_iff.1 hl).1
  obtain ⟨c,hc⟩ : ∃ c,S.cs[i]? = some c:=⟨_,List.getElem?_eq_getElem (by have:=h.len; omega)⟩
  obtain ⟨_,hr,_⟩:=h.chans i c l hc hl
  unfold readyF
  rw [if_neg hz]
  rcases hact' with ha | ha
  ·have hnt : ¬ d.act.toList = takeA:=by rw [ha]; decide
   rw [if_neg hnt]
   cases he : l.ended with
   | true => exact (ready_put_ended h hw hc hl hi ha he).mono (by rintro e w' ⟨rfl,hb⟩; exact ⟨none,rfl,λ _ => rfl,λ e => (by cases e),hb⟩)
   | false =>
    by_cases hh : l.held.length < l.room.toNat
    ·exact (ready_put_room h hw hc hl hi ha he hh).mono (by rintro e w' ⟨rfl,hb⟩; exact ⟨some c,rfl,λ e => (by simp at e; omega),λ _ => ⟨i,c,hi,hc,hl,rfl⟩,hb⟩)
    ·exact (ready_put_full h hw hc hl hi ha he hh).mono (by rintro e w' ⟨rfl,hb⟩; exact ⟨none,rfl,λ _ => rfl,λ e => (by simp at e; omega),hb⟩)
  ·rw [if_pos ha]
   by_cases hh : 0 < l.held.length
   ·exact (ready_take_held h hw hc hl hi ha hh).mono (by rintro e w' ⟨rfl,hb⟩; exact ⟨some c,rfl,λ e => (by simp [hh] at e),λ _ => ⟨i,c,hi,hc,hl,rfl⟩,hb⟩)
   ·have hh0 : l.held.length = 0:=by omega
    cases he : l.ended with
    | true => exact (ready_take_ended h hw hc hl hi ha hh0 he).mono (by rintro e w' ⟨rfl,hb⟩; exact ⟨some c,rfl,λ e => (by simp at e),λ _ => ⟨i,c,hi,hc,hl,rfl⟩,hb⟩)
    | false => exact (ready_take_not h hw hc hl hi ha hh0 he).mono (by rintro e w' ⟨rfl,hb⟩; exact ⟨none,rfl,λ _ => rfl,λ e => (by simp [hh] at e),hb⟩)
def tryF (l : Ln) (d : DeedD) : Option (Ln × List UInt8):=
 if readyF l d then some (if d.act.toList = takeA then (match l.held with | x :: xs => ({ l with held:=xs },tTook x) | [] => (l,tEnded)) else ({ l with held:=l.held ++ [d.b] },tPut)) else none
section
variable {w : World} {base : Nat} {S : Sw} {ls : List Ln} {d : DeedD} {l : Ln}
set_option maxRecDepth 20000 in
set_option maxHeartbeats 4000000 in
theorem try_not (h : SwOk w base S ls) (hw : base <= w.heap.size) (h0 : 0 <= d.a) (hl : ls[d.a.toNat]? = some l) (hact : (d.act.toList == putA || d.act.toList == takeA) = true) (hn : readyF l d = false) :
  Calls Tryd.prog 83 #[.pointer (some ⟨S.sp,0,none⟩),.agg #[.string d.act,.int .i64 d.a,.int .i64 d.b]] w λ e w' => e = .returned (.tuple #[.string ⟨#[]⟩,.bool false]) /\ Below w.heap.size w w':=by
 have HR:=λ W (hb : Below w.heap.size w W) => readyLine_is (h.below hb) (Nat.le_trans hw hb.size) h0 hl hact
 obtain ⟨s,x,y⟩:=d
 obtain ⟨t,ht⟩ : ∃ t,(s.toList == [116,97,107,101]) = t:=⟨_,rfl⟩
 have HN:=Lib.hid hn
 have HH:=Lib.hid HR
 clear h hl hact hn HR h0 hw
 go_enter Tryd.func83, Tryd.ntmps83
 cases t with
 | true =>
  go_upto_region 8 with (go_at_call 66; refine (HH.out _ (below_al (Below.refl _ _) _)).mono ?_; rintro e w1 ⟨o,rfl,ho,_,hb⟩; obtain rfl:=ho HN.out; have e2:=blk_cell (blk_below hb (heap_alloc_new w (.cells #[.string s,.int .i64 x,.int .i64 y] 34))).1 2)
  refine wp_select_own rfl rfl (by simp [go_sem,execOp,rcaseNil,scaseNil,Act.eval]) (comm_nils (.int .i64 0) (.int .i64 0) (.int .i64 y)) ?_
  go_wp2
  go_ret2
  exact ⟨rfl,(below_al (Below.refl _ _) _).trans (hb.mono (by simp))⟩
 | false =>
  go_upto_region 8 with (go_at_call 66; refine (HH.out _ (below_al (Below.refl _ _) _)).mono ?_; rintro e w1 ⟨o,rfl,ho,_,hb⟩; obtain rfl:=ho HN.out; have e2:=blk_cell (blk_below hb (heap_alloc_new w (.cells #[.string s,.int .i64 x,.int .i64 y] 34))).1 2)
  refine wp_select_own rfl rfl (by simp [go_sem,execOp,rcaseNil,scaseNil,Act.eval]) (comm_nils (.int .i64 0) (.int .i64 0) (.int .i64 y)) ?_
  go_wp2
  go_ret2
  exact ⟨rfl,(below_al (Below.refl _ _) _).trans (hb.mono (by simp))⟩
set_option maxRecDepth 20000 in
set_option maxHeartbeats 4000000 in
theorem try_take_held (h : SwOk w base S ls) (hw : base <= w.heap.size) {i c : Nat} (h0 : d.a = (i : Int) + 1) (hc : S.cs[i]? = some c) (hl : ls[i + 1]? = some l) (hr : readyF l d = true) (ht : d.act.toList = takeA) {q : Int} {qs : List Int} (hh : l.held = q :: qs) (hq0 : 0 <= q) (hq1 : q <= 1000) (htab : ∀ w',Below base w w' -> Lib.TabIs Tryd.prog w' "internal/strconv.uint64pow10" .u64 Lib.pow10Tab) :
  Calls Tryd.prog 83 #[.pointer (some ⟨S.sp,0,none⟩),.agg #[.string d.act,.int .i64 d.a,.int .i64 d.b]] w λ e w' => e = .returned (.tuple #[.string ⟨(tTook q).toArray⟩,.bool true]) /\ SwOk w' base S (ls.set (i + 1) { l with held:=qs }) /\ Below base w w' /\ KeepC w w':=by
 have hact : (d.act.toList == putA || d.act.toList == takeA) = true:=by rw [ht]; decide
 have hi' : d.a.toNat = i + 1:=by omega
 have HR:=λ W (hb : Below w.heap.size w W) => readyLine_is (h.below hb) (Nat.le_trans hw hb.size) (d:=d) (l:=l) (by omega) (by rw [hi']; exact hl) hact
 obtain ⟨b1,b2,s0,r0,hch⟩:=h.chans i c l hc hl
 obtain ⟨s,x,y⟩:=d
 have hx : x = (i : Int) + 1:=h0
 subst hx
 have ht0 : (s.toList == [116,97,107,101]) = true:=by rw [show s.toList = takeA from ht]; decide
 have HX : ∀ (j c' : Nat),((i : Int) + 1) = (j : Int) + 1 -> S.cs[j]? = some c' -> c' = c:=λ j c' e e2 => by
  have : j = i:=by omega
  subst this
  rw [hc] at e2; exact (Option.some.inj e2).symm
 have HN:=Lib.hid hr
 have HH:=Lib.hid (And.intro HR (And.intro HX (And.intro hch (And.intro h (And.intro hc (And.intro hl (And.intro hw b1)))))))
 have HQ:=Lib.hid (And.intro hh htab)
 clear hh htab
 clear h hl hc hact hr HR h0 hw hi' hch HX b1 b2 ht
 go_enter Tryd.func83, Tryd.ntmps83
 go_upto_region 8 with (go_at_call 66; refine (HH.out.1 _ (below_al (Below.refl _ _) _)).mono ?_; rintro e w1 ⟨o,rfl,_,ho,hb⟩; obtain ⟨j,c',q1,q2,_,rfl⟩:=ho HN.out; obtain rfl:=HH.out.2.1 j c' q1 q2; clear ho q1 q2; have e2:=blk_cell (blk_below hb (heap_alloc_new w (.cells #[.string s,.int .i64 ((i : Int) + 1),.int .i64 y] 34))).1 2; have hch1:=(blk_below hb (blk_alloc HH.out.2.2.1 _)).1; have HC:=Lib.hid hch1; clear hch1)
 refine wp_select_own rfl rfl (by simp [go_sem,execOp,rcase,scaseNil,Act.eval]) (comm_recv_buf HC.out (by rw [HQ.out.1]; simp [ints]) (.int .i64 0) (.int .i64 0) (.int .i64 y)) ?_
 have hg0 : (ints l.held).toArray.getD 0 undef = .int .i64 q:=by rw [HQ.out.1]; simp [ints]
 rw [hg0]
 have hll : (Lib.itoa q).length <= 20:=by
  obtain ⟨X,rfl⟩:=Int.eq_ofNat_of_zero_le hq0
  rw [Lib.itoa_nonneg]; exact dec_len (by omega)
 have hb0 : Below base w w1:=(below_al (Below.refl _ _) _).mono (by have:=HH.out.2.2.2.2.2.2.1; exact this) |>.trans (hb.mono (by simp; have:=HH.out.2.2.2.2.2.2.1; omega))
 have hb1:=below_setChan hb0 HH.out.2.2.2.2.2.2.2 l.room.toNat ((ints l.held).toArray.extract 1 (ints l.held).toArray.size) l.ended s0 (r0 + 1) false
 have HB:=Lib.hid hb1
 have hkc : KeepC w (w1.setChan c' l.room.toNat ((ints l.held).toArray.extract 1 (ints l.held).toArray.size) l.ended s0 (r0 + 1) false):=(((KeepC.below (below_al (Below.refl w.heap.size w) (.cells #[.string s,.int .i64 ((i : Int) + 1),.int .i64 y] 34))).trans (KeepC.below hb)).trans (KeepC.set (o':=.chan l.room.toNat ((ints l.held).toArray.extract 1 (ints l.held).toArray.size) l.ended s0 (r0 + 1) false) HC.out (by simp)))
 have HKC:=Lib.hid hkc
 clear hkc
 have hs1 : SwOk (w1.setChan c' l.room.toNat ((ints l.held).toArray.extract 1 (ints l.held).toArray.size) l.ended s0 (r0 + 1) false) base S (ls.set (i + 1) { l with held:=qs }):=by
  refine ((HH.out.2.2.2.1.below (below_al (Below.refl _ _) _)).below hb).held (s:=s0) (r:=r0 + 1) HH.out.2.2.2.2.1 HH.out.2.2.2.2.2.1 (λ b e => ?_) ?_
  ·simp only [World.setChan]; rw [Array.getElem?_setIfInBounds_ne (λ e' => e e'.symm)]
  ·rw [heap_setChan _ _ _ _ _ _ _ _ (blk_lt HC.out),HQ.out.1]
   simp [ints,List.take_of_length_le]
 have HS:=Lib.hid hs1
 clear hb0 hb1 hs1
 generalize hwc : w1.setChan c' l.room.toNat ((ints l.held).toArray.extract 1 (ints l.held).toArray.size) l.ended s0 (r0 + 1) false = W4 at *
 clear hwc
 go_wp2_with (go_at_call 94; refine (Tryd.strconv_Itoa q (by omega) (by omega) _ (HQ.out.2 _ HB.out)).mono ?_; rintro e w5 ⟨rfl,kk,os,rfl⟩)
 go_ret2
 have B5 : Below W4.heap.size W4 (grow (W4.drewN kk) os):=⟨rfl,rfl,rfl,by simp [grow],λ i hi => by
  show ((W4.drewN kk).heap ++ os)[i]? = _
  rw [Array.getElem?_append_left (by show i < W4.heap.size; omega)]
  rfl⟩
 refine ⟨by simp [tTook]; apply ByteArray.ext; simp [ByteArray.data_append],HS.out.below B5,HB.out.trans (B5.mono ?_),HKC.out.trans (KeepC.below B5)⟩
 have:=HB.out.size; have:=HH.out.2.2.2.2.2.2.1; omega
set_option maxRecDepth 20000 in
set_option maxHeartbeats 4000000 in
theorem try_take_ended (h : SwOk w base S ls) (hw : base <= w.heap.size) {i c : Nat} (h0 : d.a = (i : Int) + 1) (hc : S.cs[i]? = some c) (hl : ls[i + 1]? = some l) (hr : readyF l d = true) (ht : d.act.toList = takeA) (hh : l.held = []) (he : l.ended = true) :
  Calls Tryd.prog 83 #[.pointer (some ⟨S.sp,0,none⟩),.agg #[.string d.act,.int .i64 d.a,.int .i64 d.b]] w λ e w' => e = .returned (.tuple #[.string ⟨tEnded.toArray⟩,.bool true]) /\ SwOk w' base S (ls.set (i + 1) l) /\ Below base w w' /\ KeepC w w':=by
 have hact : (d.act.toList == putA || d.act.toList == takeA) = true:=by rw [ht]; decide
 have hi' : d.a.toNat = i + 1:=by omega
 have HR:=λ W (hb : Below w.heap.size w W) => readyLine_is (h.below hb) (Nat.le_trans hw hb.size) (d:=d) (l:=l) (by omega) (by rw [hi']; exact hl) hact
 obtain ⟨b1,b2,s0,r0,hch⟩:=h.chans i c l hc hl
 obtain ⟨s,x,y⟩:=d
 have hx : x = (i : Int) + 1:=h0
 subst hx
 have ht0 : (s.toList == [116,97,107,101]) = true:=by rw [show s.toList = takeA from ht]; decide
 have HX : ∀ (j c' : Nat),((i : Int) + 1) = (j : Int) + 1 -> S.cs[j]? = some c' -> c' = c:=λ j c' e e2 => by
  have : j = i:=by omega
  subst this
  rw [hc] at e2; exact (Option.some.inj e2).symm
 have HN:=Lib.hid hr
 rw [hh,he] at hch
 have HH:=Lib.hid (And.intro HR (And.intro HX (And.intro hch (And.intro h (And.intro hc (And.intro hl (And.intro hw b1)))))))
 have HQ:=Lib.hid (And.intro hh he)
 clear hh he
 clear h hl hc hact hr HR h0 hw hi' hch HX b1 b2 ht
 go_enter Tryd.func83, Tryd.ntmps83
 go_upto_region 8 with (go_at_call 66; refine (HH.out.1 _ (below_al (Below.refl _ _) _)).mono ?_; rintro e w1 ⟨o,rfl,_,ho,hb⟩; obtain ⟨j,c',q1,q2,_,rfl⟩:=ho HN.out; obtain rfl:=HH.out.2.1 j c' q1 q2; clear ho q1 q2; have e2:=blk_cell (blk_below hb (heap_alloc_new w (.cells #[.string s,.int .i64 ((i : Int) + 1),.int .i64 y] 34))).1 2; have hch1:=(blk_below hb (blk_alloc HH.out.2.2.1 _)).1; have HC:=Lib.hid hch1; clear hch1)
 refine wp_select_own rfl rfl (by simp [go_sem,execOp,rcase,scaseNil,Act.eval]) (comm_recv_shut HC.out (.int .i64 0) (.int .i64 0) (.int .i64 y)) ?_
 go_wp2
 go_ret2
 have B1:=(below_al (Below.refl w.heap.size w) (.cells #[.string s,.int .i64 ((i : Int) + 1),.int .i64 y] 34)).trans (hb.mono (by simp))
 refine ⟨by simp [tEnded],?_,B1.mono HH.out.2.2.2.2.2.2.1,KeepC.below B1⟩
 rw [set_self HH.out.2.2.2.2.2.1]
 exact HH.out.2.2.2.1.below B1
set_option maxRecDepth 20000 in
set_option maxHeartbeats 4000000 in
theorem try_put (h : SwOk w base S ls) (hw : base <= w.heap.size) {i c : Nat} (h0 : d.a = (i : Int) + 1) (hc : S.cs[i]? = some c) (hl : ls[i + 1]? = some l) (hr : readyF l d = true) (ht : d.act.toList = putA) (he : l.ended = false) (hroom : (l.held.length : Int) < l.room) :
  Calls Tryd.prog 83 #[.pointer (some ⟨S.sp,0,none⟩),.agg #[.string d.act,.int .i64 d.a,.int .i64 d.b]] w λ e w' => e = .returned (.tuple #[.string ⟨tPut.toArray⟩,.bool true]) /\ SwOk w' base S (ls.set (i + 1) { l with held:=l.held ++ [d.b] }) /\ Below base w w' /\ KeepC w w':=by
 have hact : (d.act.toList == putA || d.act.toList == takeA) = true:=by rw [ht]; decide
 have hi' : d.a.toNat = i + 1:=by omega
 have HR:=λ W (hb : Below w.heap.size w W) => readyLine_is (h.below hb) (Nat.le_trans hw hb.size) (d:=d) (l:=l) (by omega) (by rw [hi']; exact hl) hact
 obtain ⟨b1,b2,s0,r0,hch⟩:=h.chans i c l hc hl
 obtain ⟨s,x,y⟩:=d
 have hx : x = (i : Int) + 1:=h0
 subst hx
 have ht0 : (s.toList == [116,97,107,101]) = false:=by rw [show s.toList = putA from ht]; decide
 have HX : ∀ (j c' : Nat),((i : Int) + 1) = (j : Int) + 1 -> S.cs[j]? = some c' -> c' = c:=λ j c' e e2 => by
  have : j = i:=by omega
  subst this
  rw [hc] at e2; exact (Option.some.inj e2).symm
 have HN:=Lib.hid hr
 rw [he] at hch
 have HH:=Lib.hid (And.intro HR (And.intro HX (And.intro hch (And.intro h (And.intro hc (And.intro hl (And.intro hw b1)))))))
 have HQ:=Lib.hid (And.intro hroom he)
 clear hroom he
 clear h hl hc hact hr HR h0 hw hi' hch HX b1 b2 ht
 go_enter Tryd.func83, Tryd.ntmps83
 go_upto_region 8 with (go_at_call 66; refine (HH.out.1 _ (below_al (Below.refl _ _) _)).mono ?_; rintro e w1 ⟨o,rfl,_,ho,hb⟩; obtain ⟨j,c',q1,q2,_,rfl⟩:=ho HN.out; obtain rfl:=HH.out.2.1 j c' q1 q2; clear ho q1 q2; have e2:=blk_cell (blk_below hb (heap_alloc_new w (.cells #[.string s,.int .i64 ((i : Int) + 1),.int .i64 y] 34))).1 2; have hch1:=(blk_below hb (blk_alloc HH.out.2.2.1 _)).1; have HC:=Lib.hid hch1; clear hch1)
 refine wp_select_own rfl rfl (by simp [go_sem,execOp,rcaseNil,scase,Act.eval]) (comm_send_room HC.out (by have:=HQ.out.1; simp [ints]; omega) (.int .i64 0) (.int .i64 0) (.int .i64 y)) ?_
 go_wp2
 go_ret2
 have B1:=(below_al (Below.refl w.heap.size w) (.cells #[.string s,.int .i64 ((i : Int) + 1),.int .i64 y] 34)).trans (hb.mono (by simp))
 refine ⟨by simp [tPut],?_,below_setChan (B1.mono HH.out.2.2.2.2.2.2.1) HH.out.2.2.2.2.2.2.2 _ _ _ _ _ _,(KeepC.below B1).trans (KeepC.set HC.out (by simp))⟩
 refine (HH.out.2.2.2.1.below B1).held (s:=s0 + 1) (r:=r0) HH.out.2.2.2.2.1 HH.out.2.2.2.2.2.1 (λ b e => ?_) ?_
 ·simp only [World.setChan]; rw [Array.getElem?_setIfInBounds_ne (λ e' => e e'.symm)]
 ·rw [HQ.out.2,heap_setChan _ _ _ _ _ _ _ _ (blk_lt HC.out)]
  simp [ints]
def HeldOk (ls : List Ln) : Prop:=∀ l ∈ ls,∀ x ∈ l.held,0 <= x /\ x <= 1000
theorem try_any (h : SwOk w base S ls) (hw : base <= w.heap.size) (h0 : 0 <= d.a) (hl : ls[d.a.toNat]? = some l) (hact : (d.act.toList == putA || d.act.toList == takeA) = true) (hh : HeldOk ls) (htab : ∀ w',Below base w w' -> Lib.TabIs Tryd.prog w' "internal/strconv.uint64pow10" .u64 Lib.pow10Tab) :
  Calls Tryd.prog 83 #[.pointer (some ⟨S.sp,0,none⟩),.agg #[.string d.act,.int .i64 d.a,.int .i64 d.b]] w λ e w' => Below base w w' /\ KeepC w w' /\
   match tryF l d with
   | none => e = .returned (.tuple #[.string ⟨#[]⟩,.bool false]) /\ SwOk w' base S ls
   | some (l',ans) => e = .returned (.tuple #[.string ⟨ans.toArray⟩,.bool true]) /\ SwOk w' base S (ls.set d.a.toNat l'):=by
 cases hr : readyF l d with
 | false =>
  have hF : tryF l d = none:=by unfold tryF; rw [hr]; rfl
  rw [hF]
  exact (try_not h hw h0 hl hact hr).mono (by rintro e w' ⟨rfl,hb⟩; exact ⟨hb.mono hw,KeepC.below hb,rfl,h.below hb⟩)
 | true =>
  have hz : ¬ d.a = 0:=λ e => by unfold readyF at hr; rw [if_pos e] at hr; cases hr
  obtain ⟨i,hi⟩ : ∃ i : Nat,d.a = (i : Int) + 1:=⟨(d.a - 1).toNat,by omega⟩
  have hi' : d.a.toNat = i + 1:=by omega
  rw [hi'] at hl ⊢
  have hlen:=(List.getElem?_eq_some_iff.1 hl).1
  obtain ⟨c,hc⟩ : ∃ c,S.cs[i]? = some c:=⟨_,List.getElem?_eq_getElem (by have:=h.len; omega)⟩
  have hact' : d.act.toList = putA \/ d.act.toList = takeA:=by simpa using hact
  have hlh:=hh l (List.mem_of_getElem? hl)
  have hr0:=hr
  unfold readyF at hr0
  rw [if_neg hz] at hr0
  rcases hact' with ha | ha
  ·have hnt : ¬ d.act.toList = takeA:=by rw [ha]; decide
   rw [if_neg hnt] at hr0
   simp only [Bool.and_eq_true,Bool.not_eq_true',decide_eq_true_eq] at hr0
   have hF : tryF l d = some ({ l with held:=l.held ++ [d.b] },tPut):=by unfold tryF; rw [hr]; simp [hnt]
   rw [hF]
   exact (try_put h hw hi hc hl hr ha hr0.1 hr0.2).mono (by rintro e w' ⟨rfl,hs,hb,hk⟩; exact ⟨hb,hk,rfl,hs⟩)
  ·rw [if_pos ha] at hr0
   cases hq : l.held with
   | cons q qs =>
    have hF : tryF l d = some ({ l with held:=qs },tTook q):=by unfold tryF; rw [hr]; simp [ha,hq]
    rw [hF]
    have:=hlh q (by rw [hq]; exact List.mem_cons_self ..)
    exact (try_take_held h hw hi hc hl hr ha hq this.1 this.2 htab).mono (by rintro e w' ⟨rfl,hs,hb,hk⟩; exact ⟨hb,hk,rfl,hs⟩)
   | nil =>
    have he : l.ended = true:=by rw [hq] at hr0; simpa using hr0
    have hF : tryF l d = some (l,tEnded):=by unfold tryF; rw [hr]; simp [ha,hq]
    rw [hF]
    exact (try_take_ended h hw hi hc hl hr ha hq he).mono (by rintro e w' ⟨rfl,hs,hb,hk⟩; exact ⟨hb,hk,rfl,hs⟩)
end
end Go.Proofs.YtkfafknliihabaaDoor
