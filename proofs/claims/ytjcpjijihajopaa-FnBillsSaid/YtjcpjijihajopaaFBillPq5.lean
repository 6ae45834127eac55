/-
 Part 5 of what stands behind the last text.
-/
import Derived.Conc.Own5
import Derived.Conc.CompanyDraw
import Derived.Conc.LoneCalls
import Derived.Conc.Beside
import Derived.Test.YtjcpjijihajopaaFBillPq4
set_option linter.unusedSectionVars false
set_option linter.unusedSimpArgs false
set_option linter.unusedVariables false
namespace Go.Tt
section
variable {P : Pair} {S : FuncId -> Prop} {K : Pr} {R : Pr}
theorem sim_foldlM {f : Value -> Value -> Sem Value} (hf : ∀ (R : Pr) a a' b b', VR S K R a a' -> VR S K R b b' -> Sim P S K (VA S K) (f a b) R (f a' b')) :
   ∀ (l l' : List Value) {R : Pr} {x x' : Value}, VR S K R x x' -> LsR S K R l l' -> Sim P S K (VA S K) (l.foldlM f x) R (l'.foldlM f x')
 | [], [], R, x, x', hx, _ => Sim.ret hx
 | [], _ :: _, _, _, _, _, h => by have := h.1; simp at this
 | _ :: _, [], _, _, _, _, h => by have := h.1; simp at this
 | a :: l, a' :: l', R, x, x', hx, h => by
   obtain ⟨h1, h2⟩ := h.cons
   simp only [List.foldlM_cons]
   refine Sim.bnd (hf R _ _ _ _ hx h1) ?_
   intro R1 e1 v v' hv
   exact sim_foldlM hf l l' hv (h2.mono e1.le)
theorem sim_max2 {a a' b b' : Value} (ha : VR S K R a a') (hb : VR S K R b b') : Sim P S K (VA S K) (Builtin.max2 a b) R (Builtin.max2 a' b') := by
 cases ha with
 | int k n => cases hb with
   | int k' n' => exact Sim.ret (.int _ _)
   | pointer h => cases h <;> first | exact .inl never_unsupported | exact .inl never_stuck
   | _ => exact .inl never_stuck
 | string s => cases hb with
   | string s' =>
     refine Sim.bnd (sim_stringOp .geq s s') ?_
     intro R1 e1 v v' hv
     refine Sim.bnd (sim_asBool hv) ?_
     rintro R2 e2 x _ rfl
     exact Sim.ret (.string _)
   | pointer h => cases h <;> first | exact .inl never_unsupported | exact .inl never_stuck
   | _ => exact .inl never_stuck
 | pointer h => cases h <;> cases hb <;> first | exact .inl never_unsupported | exact .inl never_stuck | (rename_i h2; cases h2 <;> first | exact .inl never_unsupported | exact .inl never_stuck)
 | _ => cases hb <;> first | exact .inl never_unsupported | exact .inl never_stuck | (rename_i h2; cases h2 <;> first | exact .inl never_unsupported | exact .inl never_stuck)
theorem sim_min2 {a a' b b' : Value} (ha : VR S K R a a') (hb : VR S K R b b') : Sim P S K (VA S K) (Builtin.min2 a b) R (Builtin.min2 a' b') := by
 cases ha with
 | int k n => cases hb with
   | int k' n' => exact Sim.ret (.int _ _)
   | pointer h => cases h <;> first | exact .inl never_unsupported | exact .inl never_stuck
   | _ => exact .inl never_stuck
 | string s => cases hb with
   | string s' =>
     refine Sim.bnd (sim_stringOp .leq s s') ?_
     intro R1 e1 v v' hv
     refine Sim.bnd (sim_asBool hv) ?_
     rintro R2 e2 x _ rfl
     exact Sim.ret (.string _)
   | pointer h => cases h <;> first | exact .inl never_unsupported | exact .inl never_stuck
   | _ => exact .inl never_stuck
 | pointer h => cases h <;> cases hb <;> first | exact .inl never_unsupported | exact .inl never_stuck | (rename_i h2; cases h2 <;> first | exact .inl never_unsupported | exact .inl never_stuck)
 | _ => cases hb <;> first | exact .inl never_unsupported | exact .inl never_stuck | (rename_i h2; cases h2 <;> first | exact .inl never_unsupported | exact .inl never_stuck)
theorem sim_max (ts : Array TypeId) (t : TypeId) {xs xs' : Array Value} (h : ArR S K R xs xs') : Sim P S K (VA S K) (Builtin.max_ ts t xs) R (Builtin.max_ ts t xs') := by
 unfold Builtin.max_
 have hl := h.toList
 generalize xs.toList = l at hl ⊢
 generalize xs'.toList = l' at hl ⊢
 cases l <;> cases l'
 . exact .inl never_stuck
 . have := hl.1; simp at this
 . have := hl.1; simp at this
 . exact sim_foldlM (λ R a a' b b' => sim_max2) _ _ hl.cons.1 hl.cons.2
theorem sim_min (ts : Array TypeId) (t : TypeId) {xs xs' : Array Value} (h : ArR S K R xs xs') : Sim P S K (VA S K) (Builtin.min_ ts t xs) R (Builtin.min_ ts t xs') := by
 unfold Builtin.min_
 have hl := h.toList
 generalize xs.toList = l at hl ⊢
 generalize xs'.toList = l' at hl ⊢
 cases l <;> cases l'
 . exact .inl never_stuck
 . have := hl.1; simp at this
 . have := hl.1; simp at this
 . exact sim_foldlM (λ R a a' b b' => sim_min2) _ _ hl.cons.1 hl.cons.2
theorem sim_bytes {f : Value -> ByteArray -> Sem (ForInStep ByteArray)} (hf : ∀ (R : Pr) c c' s, VR S K R c c' -> Sim P S K EqA (f c s) R (f c' s)) : ∀ (l l' : List Value) {R : Pr} (s : ByteArray), LsR S K R l l' ->
   Sim P S K EqA (forIn (m := Sem) l s f) R (forIn (m := Sem) l' s f)
 | [], [], R, s, _ => Sim.ret rfl
 | [], _ :: _, _, _, h => by have := h.1; simp at this
 | _ :: _, [], _, _, h => by have := h.1; simp at this
 | a :: l, a' :: l', R, s, h => by
   obtain ⟨h1, h2⟩ := h.cons
   simp only [List.forIn_cons]
   refine Sim.bnd (hf R a a' s h1) ?_
   rintro R1 e1 x _ rfl
   cases x with
   | done b => exact Sim.ret rfl
   | yield b => exact sim_bytes hf l l' b (h2.mono e1.le)
theorem sim_bytesToString {x x' : Value} (h : VR S K R x x') : Sim P S K (VA S K) (Conv.bytesToString x) R (Conv.bytesToString x') := by
 unfold Conv.bytesToString
 cases h with
 | slice ha =>
   cases ha with
   | none => exact Sim.ret (.string _)
   | some ha =>
     refine Sim.bnd (sim_loadCells ha _) ?_
     intro R1 e1 xs xs' hx
     simp only
     rw [<- Array.forIn_toList, <- Array.forIn_toList]
     refine Sim.bnd (sim_bytes (λ R c c' s hc => ?_) _ _ _ hx.toList) ?_
     . cases hc with
       | int k n => cases k <;> first | exact Sim.ret rfl | exact .inl (never_stuck.bnd _) | exact .inl never_stuck
       | _ => first | exact .inl (never_stuck.bnd _) | exact .inl never_stuck
     rintro R2 e2 s _ rfl
     exact Sim.ret (.string _)
 | _ => exact .inl never_stuck
def nilChk (v : Value) : Sem Next :=
 match v with
 | .pointer none | .nilIface | .nilFunc => runtimePanic .nilDeref
 | .func (.method name) first captured =>
   match (first[0]? : Option Value) with
   | some .nilIface => runtimePanic .nilDeref
   | some (.iface t w) => do
     if (<- nilAhead ((<- program).types.size + Made.depth) t w name) != some false then
       unsupported (.noEntry "op/nilCheck.the method's receiver behind this interface value is a nil pointer, or cannot be seen to be none, and the arguments act or may panic (ledger 612)")
     pure (.value (.func (.method name) first captured))
   | _ => pure (.value (.func (.method name) first captured))
 | x => pure (.value x)
theorem sim_nilChk {x x' : Value} (h : VR S K R x x') : Sim P S K (λ R a b => ∃ v v', a = .value v /\ b = .value v' /\ VR S K R v v') (nilChk x) R (nilChk x') := by
 unfold nilChk
 have h0 := h
 cases h with
 | pointer h => cases h with
   | none => exact .inl never_runtimePanic
   | some h => exact Sim.ret ⟨_, _, rfl, rfl, h0⟩
 | nilIface => exact .inl never_runtimePanic
 | nilFunc => exact .inl never_runtimePanic
 | junk h => exact .inl never_runtimePanic
 | _ => exact Sim.ret ⟨_, _, rfl, rfl, h0⟩
end
end Go.Tt
namespace Go.Tt
section
variable {P : Pair} {S : FuncId -> Prop} {K R : Pr}
theorem sim_forIn {α β : Type} {f f' : α -> β -> Sem (ForInStep β)} : ∀ (l : List α) (b : β) {R : Pr}, RelOk P K R -> (∀ x ∈ l, ∀ b R1, Ext P K R R1 -> RelOk P K R1 -> Sim P S K EqA (f x b) R1 (f' x b)) -> Sim P S K EqA (forIn l b f) R (forIn l b f')
 | [], b, R, hR, hf => by simp only [List.forIn_nil]; exact Sim.ret rfl
 | x :: l, b, R, hR, hf => by
   simp only [List.forIn_cons]
   refine Sim.bnd (hf x (by simp) b R (.refl R) hR) ?_
   rintro R1 h1 s _ rfl
   cases s with
   | done b => exact Sim.ret rfl
   | yield b => exact sim_forIn l b (h1.ok hR) λ y hy b R2 h2 h3 => hf y (by simp [hy]) b R2 (h1.trans h2) h3
structure StrOk (P : Pair) (t : TypeId) : Prop where
 ex : ∃ fields, P.underlying t = some (.struct fields) /\ ∀ f ∈ fields, KeyOk P f.type
 held : P.c.stoodInHeld t = false
theorem alike_g (P : Pair) : ∀ (n : Nat), P.g.alikeButTags n = P.c.alikeButTags n
 | 0 => rfl
 | n + 1 => by
   funext t u
   unfold Program.alikeButTags
   rw [alike_g P n]
theorem stoodInHeld_g (P : Pair) (t : TypeId) : P.g.stoodInHeld t = P.c.stoodInHeld t := by
 unfold Program.stoodInHeld Program.stoodInAs
 rw [alike_g P P.g.depth]
 rfl
theorem sim_equalS {t : TypeId} (ht : StrOk P t) (hR : RelOk P K R) {xs xs' ys ys' : Array Value} (hx : ArR S K R xs xs') (hy : ArR S K R ys ys') : Sim P S K EqA (Op.equal t (.agg xs) (.agg ys)) R (Op.equal t (.agg xs') (.agg ys')) := by
 obtain ⟨fields, hd, hf⟩ := ht.ex
 have e : ∀ a b, Op.equal t a b = Op.equalIn (9999 + 1) t a b := λ a b => rfl
 rw [e, e]
 unfold Op.equalIn
 refine Sim.bnd (sim_underlying t) ?_
 rintro R1 h1 d _ ⟨rfl, hd'⟩
 obtain rfl : d = .struct fields := Option.some.inj (hd'.symm.trans hd)
 simp only
 refine Sim.bnd sim_program ?_
 rintro R2 h2 p q ⟨rfl, rfl⟩
 rw [stoodInHeld_g, ht.held]
 simp only [Bool.false_eq_true, if_false]
 have hR2 := h2.ok (h1.ok hR)
 have hx2 : ArR S K R2 xs xs' := (hx.mono h1.le).mono h2.le
 have hy2 : ArR S K R2 ys ys' := (hy.mono h1.le).mono h2.le
 rw [<- Array.forIn_toList, <- Array.forIn_toList]
 refine Sim.bnd (sim_forIn fields.toList _ hR2 λ f hfm b R3 h3 hR3 => ?_) ?_
 . by_cases hn : f.name ≠ "_"
   . simp only [hn, ne_eq, not_false_eq_true, if_true]
     refine Sim.bnd (sim_part f.type (hx2.mono h3.le) f.offset) λ R4 h4 u u' hu => ?_
     refine Sim.bnd (sim_part f.type ((hy2.mono h3.le).mono h4.le) f.offset) λ R5 h5 v v' hv => ?_
     obtain ⟨d', hd1, ok⟩ := (hf f (by simpa using hfm)).ex
     refine Sim.bnd (sim_equalIn 9998 f.type d' hd1 ok (λ k e => (hf f (by simpa using hfm)).nc k (e ▸ hd1)) (h5.ok (h4.ok hR3)) (hu.mono h5.le) hv) ?_
     rintro R6 h6 c _ rfl
     cases c
     . exact Sim.ret rfl
     . exact Sim.ret rfl
   . simp only [hn, if_false]
     exact Sim.ret rfl
 . rintro R3 h3 s _ rfl
   obtain ⟨a, b⟩ := s
   cases a with
   | none => exact Sim.ret rfl
   | some c => exact Sim.ret rfl
theorem never_equalS {t : TypeId} (ht : StrOk P t) {x y : Value} (h : ¬ ((∃ xs, x = .agg xs) /\ ∃ ys, y = .agg ys)) : Never P (Op.equal t x y) := by
 obtain ⟨fields, hd, hf⟩ := ht.ex
 have e : Op.equal t x y = Op.equalIn (9999 + 1) t x y := rfl
 rw [e]
 unfold Op.equalIn
 have hu : ∀ w, (underlying t).run P.g w = .ok (.struct fields) w := λ w => by
   have : P.g.underlying t = some (.struct fields) := hd
   simp [underlying, program, Sem.run, bind, Sem.bind, pure, this]
 have key : ∀ {f : TypeDesc -> Sem Bool}, Never P (f (.struct fields)) -> Never P (underlying t >>= f) := λ {f} hf w hw => by
   obtain ⟨h1, w1, h2, h3⟩ := hf w hw
   refine ⟨h1, w1, ?_, h3⟩
   have := Sem.run_bind' P.g (underlying t) f w
   rw [hu] at this
   exact this.trans h2
 refine key ?_
 cases x <;> cases y <;> first
   | exact (h ⟨⟨_, rfl⟩, ⟨_, rfl⟩⟩).elim
   | exact never_stuck
end
end Go.Tt
namespace Go.Tt
def keyOk (p : Program) (t : TypeId) : Bool :=
 match p.underlying t with
 | some (.int _) => (match p.info? t with | some i => (match i.desc with | .named "sync.copyChecker" _ => false | _ => true) | none => true)
 | some d => eqOk d
 | none => false
def strOk (p : Program) (t : TypeId) : Bool :=
 match p.underlying t with
 | some (.struct fs) => (fs.all λ f => keyOk p f.type) && !p.stoodInHeld t
 | _ => false
def okConst : Value -> Bool
 | .bool _ | .int _ _ | .string _ | .nilFunc | .nilIface | .pointer none | .slice none _ _ | .map none | .chan none => true
 | _ => false
def mapOk (p : Program) (t : TypeId) : Bool := match p.underlying t with | some (.map k _) => keyOk p k | _ => true
def isIntT (p : Program) (t : TypeId) : Bool := match p.underlying t with | some (.int _) => true | _ => false
def okX (fs : FuncId -> Bool) : Operand -> Bool
 | .tmp _ => true
 | .const v => okConst v
 | .global _ => false
 | .func f => fs f
structure Cl where
 fs : FuncId -> Bool
 gs : FuncId -> Bool
 dy : Bool
abbrev Cl.T (c : Cl) (f : FuncId) : Prop := c.gs f = true
def isU8S (p : Program) (t : TypeId) : Bool := match p.underlying t with | some (.slice e) => (match p.underlying e with | some (.int .u8) => true | _ => false) | _ => false
def isStrT (p : Program) (t : TypeId) : Bool := match p.underlying t with | some .string => true | _ => false
def notIntT (p : Program) (o : Option TypeId) : Bool := match o with | some t => (match p.underlying t with | some (.int _) => false | _ => true) | none => true
def okCall (c : Cl) : Operand -> Bool
 | .func g => c.gs g
 | x => okX c.fs x && c.dy
def okOp (p : Program) (c : Cl) : Op -> Bool
 | .move x | .assign x | .nilCheck x => okX c.fs x
 | .pick q a b => okX c.fs q && okX c.fs a && okX c.fs b
 | .alloc _ => true
 | .box _ x => okX c.fs x
 | .build _ ps => ps.all λ x => okX c.fs x.2
 | .buildSlice _ _ ps => ps.all λ x => okX c.fs x.2
 | .load _ a => okX c.fs a
 | .store _ a x => okX c.fs a && okX c.fs x
 | .binOp op t x y _ => okX c.fs x && okX c.fs y && (if op matches .eql | .neq then (keyOk p t || strOk p t) && !(p.eqGuardType p.depth t) else true)
 | .unOp _ _ x => okX c.fs x
 | .convert s d x => okX c.fs x && ((isIntT p s && isIntT p d) || (isU8S p s && isStrT p d))
 | .makeFunc (.func f) a b => c.fs f && a.all (okX c.fs) && b.all (okX c.fs)
 | .makeMap _ r => (match r with | some x => okX c.fs x | none => true)
 | .makeSlice _ l q => okX c.fs l && okX c.fs q
 | .slice _ x lo hi mx => okX c.fs x && (match lo with | some x => okX c.fs x | none => true) && (match hi with | some x => okX c.fs x | none => true) && (match mx with | some x => okX c.fs x | none => true)
 | .fieldAddr _ x _ | .field _ x _ | .extract x _ => okX c.fs x
 | .indexAddr _ x i | .index _ x i => okX c.fs x && okX c.fs i
 | .lookup t x i _ => okX c.fs x && okX c.fs i && mapOk p t
 | .mapUpdate t m k x => okX c.fs m && okX c.fs k && okX c.fs x && mapOk p t
 | .call { callee := .value f, args, .. } => okCall c f && args.all (okX c.fs)
 | .call { callee := .builtin .len, args, .. } | .call { callee := .builtin .cap, args, .. } | .call { callee := .builtin .max, args, .. } | .call { callee := .builtin .min, args, .. } | .call { callee := .builtin .copy, args, .. } => args.all (okX c.fs)
 | .call { callee := .builtin .append, args, argTypes } => args.all (okX c.fs) && notIntT p argTypes[1]?
 | .call { callee := .builtin .delete, args, argTypes } => args.all (okX c.fs) && (match argTypes[0]? with | some t => mapOk p t | none => true)
 | _ => false
section
variable {P : Pair} {fs : FuncId -> Bool} {K R : Pr}
abbrev SF (fs : FuncId -> Bool) : FuncId -> Prop := λ f => fs f = true
theorem keyOk_ok {t : TypeId} (h : keyOk P.c t = true) : KeyOk P t := by
 unfold keyOk at h
 have hu : ∀ d, P.c.underlying t = some d -> P.underlying t = some d := λ d e => e
 split at h
 . next k e =>
   refine ⟨⟨_, e, rfl⟩, λ k' _ i x hi hd => ?_⟩
   have hi' : P.c.info? t = some i := hi
   rw [hi'] at h
   simp only [hd] at h
   cases h
 . next d hne e =>
   exact ⟨⟨d, e, h⟩, λ k hk => absurd (e.symm.trans hk) (by intro e'; injection e' with e'; exact hne k (e' ▸ rfl))⟩
 . cases h
theorem strOk_ok {t : TypeId} (h : strOk P.c t = true) : StrOk P t := by
 unfold strOk at h
 split at h
 . next fs e =>
   simp only [Bool.and_eq_true, Bool.not_eq_true'] at h
   refine ⟨⟨fs, e, λ f hf => keyOk_ok ?_⟩, h.2⟩
   have := h.1
   rw [Array.all_eq_true_iff_forall_mem] at this
   exact this f hf
 . cases h
theorem okConst_ok {v : Value} (h : okConst v = true) : VR (SF fs) K R v v := by
 cases v with
 | bool b => exact .bool b
 | int k n => exact .int k n
 | string s => exact .string s
 | nilFunc => exact .nilFunc
 | nilIface => exact .nilIface
 | pointer a => cases a with | none => exact .pointer .none | some a => cases h
 | slice a n c => cases a with | none => exact .slice .none | some a => cases h
 | map a => cases a with | none => exact .map .none | some a => cases h
 | chan a => cases a with | none => exact .chan .none | some a => cases h
 | _ => cases h
inductive NxR (S : FuncId -> Prop) (T : FuncId -> Prop) (K R : Pr) : Next -> Next -> Prop
 | value {v v' : Value} : VR S K R v v' -> NxR S T K R (.value v) (.value v')
 | skip : NxR S T K R .skip .skip
 | enter {f : FuncId} {xs xs' : Array Value} : T f -> ArR S K R xs xs' -> NxR S T K R (.enter f xs) (.enter f xs')
abbrev NA (S : FuncId -> Prop) (T : FuncId -> Prop) (K : Pr) : Pr -> Next -> Next -> Prop := λ R n n' => NxR S T K R n n'
theorem sim_v {S T : FuncId -> Prop} {s s' : Sem Value} (h : Sim P S K (VA S K) s R s') : Sim P S K (NA S T K) (do pure (.value (<- s))) R (do pure (.value (<- s'))) :=
 Sim.bnd h λ _ _ _ _ hv => Sim.ret (.value hv)
theorem sim_u {S T : FuncId -> Prop} {α : Type} {s s' : Sem α} (h : Sim P S K EqA s R s') : Sim P S K (NA S T K) (do let _ <- s; pure .skip) R (do let _ <- s'; pure .skip) :=
 Sim.bnd h λ _ _ _ _ _ => Sim.ret .skip
theorem ArR.maps {S : FuncId -> Prop} {ρ ρ' : Operand -> Value} {ok : Operand -> Bool} (h : ∀ x, ok x = true -> VR S K R (ρ x) (ρ' x)) {xs : Array Operand} (hx : xs.all ok = true) : ArR S K R (xs.map ρ) (xs.map ρ') := by
 refine ⟨by simp, λ i v v' h1 h2 => ?_⟩
 rw [Array.getElem?_map] at h1 h2
 obtain ⟨x, hx1, rfl⟩ := Option.map_eq_some_iff.1 h1
 obtain ⟨y, hy1, rfl⟩ := Option.map_eq_some_iff.1 h2
 rw [hx1] at hy1
 cases hy1
 exact h x (Array.all_eq_true.1 hx i (Array.getElem?_eq_some_iff.1 hx1).1 |> λ e => by rwa [(Array.getElem?_eq_some_iff.1 hx1).2] at e)
theorem sim_eqGuard {S : FuncId -> Prop} (op : BinOp) (t : TypeId) (x y : Operand) {a a' b b' : Value} (ha : VR S K R a a') (hb : VR S K R b b') (h : P.c.eqGuardType P.c.depth t = false) (h' : P.g.eqGuardType P.g.depth t = false) :
   Sim P S K EqA (eqGuard op t x y a b) R (eqGuard op t x y a' b') := by
 have rest : Sim P S K EqA (do
     match a, b with
     | .nilIface, .nilIface =>
       if (x matches .const _) || (y matches .const _) then return
       if <- Op.eqGuardIn Op.maxDepth t a b then unsupported (.noEntry "binop/eql: two nil values of an interface type with methods, neither of them the literal nil")
     | .agg _, .agg _ =>
       if !(<- program).eqGuardType (<- program).depth t then return
       if <- Op.eqGuardIn Op.maxDepth t a b then unsupported (.noEntry "binop/eql: two nil values of an interface type with methods, in a part of a struct or an array")
     | _, _ => pure ()) R (do
     match a', b' with
     | .nilIface, .nilIface =>
       if (x matches .const _) || (y matches .const _) then return
       if <- Op.eqGuardIn Op.maxDepth t a' b' then unsupported (.noEntry "binop/eql: two nil values of an interface type with methods, neither of them the literal nil")
     | .agg _, .agg _ =>
       if !(<- program).eqGuardType (<- program).depth t then return
       if <- Op.eqGuardIn Op.maxDepth t a' b' then unsupported (.noEntry "binop/eql: two nil values of an interface type with methods, in a part of a struct or an array")
     | _, _ => pure ()) := by
   cases ha with
   | nilIface =>
     cases hb with
     | nilIface =>
       simp only
       by_cases hc : ((x matches .const _) || (y matches .const _)) = true
       . rw [if_pos hc]
         exact Sim.ret rfl
       . rw [if_neg hc]
         refine Sim.bnd (A := EqA) ?_ λ R1 h1 c _ e => ?_
         . show Sim P S K EqA (Op.eqGuardIn (9999 + 1) t .nilIface .nilIface) R (Op.eqGuardIn (9999 + 1) t .nilIface .nilIface)
           unfold Op.eqGuardIn
           refine Sim.bnd (sim_underlying t) ?_
           rintro R1 h1 d _ ⟨rfl, _⟩
           cases d <;> exact Sim.ret rfl
         . subst e
           cases c
           . exact Sim.ret rfl
           . exact .inl never_unsupported
     | junk hh => cases b' <;> first | exact hh.elim | exact Sim.ret rfl
     | _ => exact Sim.ret rfl
   | agg e1 e2 =>
     cases hb with
     | agg e3 e4 =>
       simp only
       refine Sim.bnd sim_program ?_
       rintro R1 h1 p q ⟨rfl, rfl⟩
       refine Sim.bnd sim_program ?_
       rintro R2 h2 p q ⟨rfl, rfl⟩
       rw [h, h']
       exact Sim.ret rfl
     | junk hh => cases b' <;> first | exact hh.elim | exact Sim.ret rfl
     | _ => exact Sim.ret rfl
   | junk hh => cases a' <;> first | exact hh.elim | exact Sim.ret rfl
   | _ => exact Sim.ret rfl
 unfold eqGuard
 cases op <;> first | exact Sim.ret rfl | exact rest
theorem sim_cmpS {t : TypeId} (op : BinOp) (ho : op = .eql \/ op = .neq) (he : StrOk P t) (hR : RelOk P K R) {x x' y y' : Value} (hx : VR (SF fs) K R x x') (hy : VR (SF fs) K R y y') :
   Sim P (SF fs) K (VA (SF fs) K) (binOp op t x y) R (binOp op t x' y') := by
 by_cases hf : (∃ xs, x = .agg xs) /\ ∃ ys, y = .agg ys
 . obtain ⟨⟨xs, rfl⟩, ys, rfl⟩ := hf
   cases hx with
   | agg e1 e2 =>
     cases hy with
     | agg e3 e4 =>
       have k := sim_equalS he hR (⟨e1, e2⟩ : ArR (SF fs) K R _ _) (⟨e3, e4⟩ : ArR (SF fs) K R _ _)
       rcases ho with rfl | rfl
       . exact Sim.bnd k λ R1 _ b _ e => by subst e; exact Sim.ret (.bool _)
       . exact Sim.bnd k λ R1 _ b _ e => by subst e; exact Sim.ret (.bool _)
 . have hn := never_equalS he hf
   cases hx with
   | int k a =>
     cases hy with
     | int k' b =>
       by_cases hk : k = k'
       . subst hk; rcases ho with rfl | rfl <;> (simp only [binOp, ne_eq, not_true_eq_false, if_false]; exact sim_intCmp _ _ _)
       . rcases ho with rfl | rfl <;> (simp only [binOp, ne_eq, hk, not_false_eq_true, if_true]; exact .inl never_stuck)
     | _ => rcases ho with rfl | rfl <;> exact .inl (hn.bnd _)
   | string a =>
     cases hy with
     | string b =>
       rcases ho with rfl | rfl
       . exact sim_stringOp .eql a b
       . exact sim_stringOp .neq a b
     | _ => rcases ho with rfl | rfl <;> exact .inl (hn.bnd _)
   | _ => rcases ho with rfl | rfl <;> (cases hy <;> exact .inl (hn.bnd _))
theorem sim_cmp {t : TypeId} (op : BinOp) (ho : op = .eql \/ op = .neq) (he : KeyOk P t) (hR : RelOk P K R) {x x' y y' : Value} (hx : VR (SF fs) K R x x') (hy : VR (SF fs) K R y y') :
   Sim P (SF fs) K (VA (SF fs) K) (binOp op t x y) R (binOp op t x' y') := by
 have k1 : Sim P (SF fs) K (VA (SF fs) K) (do pure (.bool (<- Op.equal t x y))) R (do pure (.bool (<- Op.equal t x' y'))) :=
   Sim.bnd (sim_equal he hR hx hy) λ R1 _ b _ e => by subst e; exact Sim.ret (.bool _)
 have k2 : Sim P (SF fs) K (VA (SF fs) K) (do pure (.bool (!(<- Op.equal t x y)))) R (do pure (.bool (!(<- Op.equal t x' y')))) :=
   Sim.bnd (sim_equal he hR hx hy) λ R1 _ b _ e => by subst e; exact Sim.ret (.bool _)
 by_cases hf : Flat x /\ Flat y
 rotate_left
 . obtain ⟨d, hd, ok⟩ := he.ex
   have hn := never_equal hd ok hf
   refine .inl ?_
   rcases ho with rfl | rfl <;> cases x <;> cases y <;> first
     | exact (hf ⟨True.intro, True.intro⟩).elim
     | exact hn.bnd _
 rcases ho with rfl | rfl
 . cases hx with
   | int k a =>
     cases hy with
     | int k' b =>
       by_cases hk : k = k'
       . subst hk; simp only [binOp, ne_eq, not_true_eq_false, if_false]; exact sim_intCmp _ _ _
       . simp only [binOp, ne_eq, hk, not_false_eq_true, if_true]; exact .inl never_stuck
     | junk hh => exact hf.2.elim
     | _ => exact k1
   | string a =>
     cases hy with
     | string b => exact sim_stringOp .eql a b
     | junk hh => exact hf.2.elim
     | _ => exact k1
   | junk hh => exact hf.1.elim
   | _ => cases hy <;> first | exact k1 | exact hf.2.elim
 . cases hx with
   | int k a =>
     cases hy with
     | int k' b =>
       by_cases hk : k = k'
       . subst hk; simp only [binOp, ne_eq, not_true_eq_false, if_false]; exact sim_intCmp _ _ _
       . simp only [binOp, ne_eq, hk, not_false_eq_true, if_true]; exact .inl never_stuck
     | junk hh => exact hf.2.elim
     | _ => exact k2
   | string a =>
     cases hy with
     | string b => exact sim_stringOp .neq a b
     | junk hh => exact hf.2.elim
     | _ => exact k2
   | junk hh => exact hf.1.elim
   | _ => cases hy <;> first | exact k2 | exact hf.2.elim
theorem sim_convInt {s d : TypeId} (hs : isIntT P.c s = true) (hd : isIntT P.c d = true) {S : FuncId -> Prop} {x x' : Value} (hx : VR S K R x x') : Sim P S K (VA S K) (convert s d x) R (convert s d x') := by
 unfold convert
 refine Sim.bnd (sim_underlying s) ?_
 rintro R1 h1 a _ ⟨rfl, ha⟩
 refine Sim.bnd (sim_underlying d) ?_
 rintro R2 h2 b _ ⟨rfl, hb⟩
 have ha' : P.c.underlying s = some a := ha
 have hb' : P.c.underlying d = some b := hb
 unfold isIntT at hs hd
 rw [ha'] at hs
 rw [hb'] at hd
 cases a <;> simp only [Bool.false_eq_true] at hs
 cases b <;> simp only [Bool.false_eq_true] at hd
 cases hx with
 | int k n => exact Sim.ret (.int _ _)
 | pointer h => cases h <;> exact .inl never_unsupported
 | _ => exact .inl never_unsupported
theorem never_underlying {t : TypeId} {d : TypeDesc} (hd : P.c.underlying t = some d) {β : Type} {f : TypeDesc -> Sem β} (hf : Never P (f d)) : Never P (underlying t >>= f) := λ w hw => by
 obtain ⟨h1, w1, h2, h3⟩ := hf w hw
 refine ⟨h1, w1, ?_, h3⟩
 have hg : P.g.underlying t = some d := hd
 have hu : (underlying t).run P.g w = .ok d w := by simp [underlying, program, Sem.run, bind, Sem.bind, pure, hg]
 have := Sem.run_bind' P.g (underlying t) f w
 rw [hu] at this
 exact this.trans h2
theorem isU8S_ok {p : Program} {s : TypeId} (h : isU8S p s = true) : ∃ e, p.underlying s = some (.slice e) /\ p.underlying e = some (.int .u8) := by
 unfold isU8S at h
 split at h
 . next e he =>
   split at h
   . next h2 => exact ⟨e, he, h2⟩
   . cases h
 . cases h
theorem isStrT_ok {p : Program} {s : TypeId} (h : isStrT p s = true) : p.underlying s = some .string := by
 unfold isStrT at h
 split at h
 . next he => exact he
 . cases h
theorem sim_intToString {S : FuncId -> Prop} (n : Int) : Sim P S K (VA S K) (Conv.intToString n) R (Conv.intToString n) := by
 unfold Conv.intToString
 first | exact Sim.ret (.string _) | (split <;> exact Sim.ret (.string _))
theorem sim_convStr {s d : TypeId} (hs : isU8S P.c s = true) (hd : isStrT P.c d = true) {S : FuncId -> Prop} {x x' : Value} (hx : VR S K R x x') : Sim P S K (VA S K) (convert s d x) R (convert s d x') := by
 obtain ⟨e, hs1, hs2⟩ := isU8S_ok hs
 have hd1 := isStrT_ok hd
 by_cases hj : x = .nilFunc
 . subst hj
   refine .inl ?_
   unfold convert
   exact never_underlying hs1 (never_underlying hd1 (never_underlying hs2 never_stuck))
 unfold convert
 refine Sim.bnd (sim_underlying s) ?_
 rintro R1 h1 a _ ⟨rfl, ha⟩
 refine Sim.bnd (sim_underlying d) ?_
 rintro R2 h2 b _ ⟨rfl, hb⟩
 obtain rfl : a = .slice e := Option.some.inj ((show P.c.underlying s = some a from ha).symm.trans hs1)
 obtain rfl : b = .string := Option.some.inj ((show P.c.underlying d = some b from hb).symm.trans hd1)
 have tail : ∀ {x x' : Value}, VR S K R2 x x' -> Sim P S K (VA S K) (do match <- underlying e with | .int .u8 => Conv.bytesToString x | .int .i32 => Conv.runesToString x | _ => stuck "Convert: a slice of what to string?") R2
     (do match <- underlying e with | .int .u8 => Conv.bytesToString x' | .int .i32 => Conv.runesToString x' | _ => stuck "Convert: a slice of what to string?") := by
   intro x x' hx
   refine Sim.bnd (sim_underlying e) ?_
   rintro R3 h3 c _ ⟨rfl, hc⟩
   obtain rfl : c = .int .u8 := Option.some.inj ((show P.c.underlying e = some c from hc).symm.trans hs2)
   exact sim_bytesToString (hx.mono h3.le)
 have hx2 := (hx.mono h1.le).mono h2.le
 cases hx with
 | int k n => exact sim_intToString n
 | string s => exact Sim.ret (.string s)
 | nilFunc => exact absurd rfl hj
 | junk _ => exact absurd rfl hj
 | slice h => cases h <;> exact tail hx2
 | _ => exact tail hx2
def fitCode (p : Program) (q : Cl) : Code -> Bool
 | .skip | .ret | .exit _ | .label _ => true
 | .region _ ops _ => ops.all λ o => okOp p q o.op
 | .seq a b => fitCode p q a && fitCode p q b
 | .cond c a b => okX q.fs c && fitCode p q a && fitCode p q b
 | .block _ c | .loop c | .scope c => fitCode p q c
 | _ => false
def cls (P : Pair) (fs : FuncId -> Bool) (f : FuncId) : Cl := if P.lw f then ⟨fs, P.lw, false⟩ else ⟨fs, P.gs, P.dy⟩
theorem cls_fs (P : Pair) (fs : FuncId -> Bool) (f : FuncId) : (cls P fs f).fs = fs := by unfold cls; split <;> rfl
structure Fit (P : Pair) (fs : FuncId -> Bool) : Prop where
 zero : ZeroOk P (SF fs)
 fn : ∀ f, P.gs f = true -> P.op f = false -> ∃ fn c, P.g.funcs[f]? = some fn /\ P.c.funcs[f]? = some fn /\ (fn.name == "runtime.NumGoroutine") = false /\ fn.body = some c /\ fitCode P.c (cls P fs f) c = true
 opq : ∀ f, P.gs f = true -> P.op f = true -> ∃ fn fn' c c', P.g.funcs[f]? = some fn /\ P.c.funcs[f]? = some fn' /\ (fn.name == "runtime.NumGoroutine") = false /\ (fn'.name == "runtime.NumGoroutine") = false /\ fn.body = some c /\ fn'.body = some c'
 low : ∀ f, P.lw f = true -> P.op f = false /\ P.gs f = true
 dyn : P.dy = true -> ∀ f, fs f = true -> P.gs f = true
 guard : ∀ t, P.g.eqGuardType P.g.depth t = P.c.eqGuardType P.c.depth t
theorem sim_callFunc (F : Fit P fs) {T : FuncId -> Prop} {f : FuncId} (hf : P.gs f = true) (hT : T f) {xs xs' : Array Value} (h : ArR (SF fs) K R xs xs') : Sim P (SF fs) K (NA (SF fs) T K) (callFunc f xs) R (callFunc f xs') := by
 unfold callFunc
 refine Sim.bnd sim_program ?_
 rintro R1 h1 p q ⟨rfl, rfl⟩
 cases ho : P.op f with
 | false =>
   obtain ⟨fn, c, e1, e2, e3, e4, _⟩ := F.fn f hf ho
   simp only [e1, e2, e3, e4, Option.isNone_some, Bool.false_eq_true, if_false]
   exact Sim.ret (.enter hT (h.mono h1.le))
 | true =>
   obtain ⟨fn, fn', c, c', e1, e2, e3, e4, e5, e6⟩ := F.opq f hf ho
   simp only [e1, e2, e3, e4, e5, e6, Option.isNone_some, Bool.false_eq_true, if_false]
   exact Sim.ret (.enter hT (h.mono h1.le))
theorem okX_ov {S : FuncId -> Prop} {ρ ρ' : Operand -> Value} (hρ : ∀ x, okX fs x = true -> VR S K R (ρ x) (ρ' x)) {r : Option Operand} (h : (match r with | some x => okX fs x | none => true) = true) : OvR S K R (r.map ρ) (r.map ρ') := by
 cases r with
 | none => exact .none
 | some x => exact .some (hρ x h)
theorem okX_ps {S : FuncId -> Prop} {ρ ρ' : Operand -> Value} (hρ : ∀ x, okX fs x = true -> VR S K R (ρ x) (ρ' x)) {ps : Array (Nat × Operand)} (h : (ps.all λ x => okX fs x.2) = true) : PsR S K R (ps.map λ (i, x) => (i, ρ x)).toList (ps.map λ (i, x) => (i, ρ' x)).toList := by
 rw [Array.toList_map, Array.toList_map]
 have h' : ∀ x ∈ ps.toList, okX fs x.2 = true := λ x hx => by
   rw [Array.all_eq_true'] at h
   exact h x (by simpa using hx)
 generalize ps.toList = l at h' ⊢
 induction l with
 | nil => exact .nil
 | cons a l ih =>
   obtain ⟨i, x⟩ := a
   exact .cons (hρ x (h' (i, x) (by simp))) (ih λ y hy => h' y (by simp [hy]))
theorem sim_execOp (F : Fit P fs) (hR : RelOk P K R) {ρ ρ' : Operand -> Value} (hρ : ∀ x, okX fs x = true -> VR (SF fs) K R (ρ x) (ρ' x)) (hff : ∀ g, ρ (.func g) = .func (.func g) #[] #[]) (hff' : ∀ g, ρ' (.func g) = .func (.func g) #[] #[]) {q : Cl} (hq : q.fs = fs) (hqg : ∀ f, q.gs f = true -> P.gs f = true) (hqd : q.dy = true -> ∀ f, fs f = true -> q.gs f = true) {o : Oper} (ok : okOp P.c q o.op = true) :
   Sim P (SF fs) K (NA (SF fs) q.T K) (execOp ρ o) R (execOp ρ' o) := by
 obtain ⟨dst, op, type, pos, after, guard⟩ := o
 subst hq
 simp only at ok
 unfold execOp
 cases op with
 | move x => exact Sim.ret (.value (hρ x ok))
 | assign x => exact Sim.ret (.value (hρ x ok))
 | pick c a b =>
   simp only [okOp, Bool.and_eq_true] at ok
   refine Sim.bnd (sim_asBool (hρ c ok.1.1)) ?_
   rintro R1 h1 x _ rfl
   cases x
   . exact Sim.ret (.value ((hρ b ok.2).mono h1.le))
   . exact Sim.ret (.value ((hρ a ok.1.2).mono h1.le))
 | alloc t => exact sim_v (sim_alloc F.zero t)
 | box t x => exact sim_v (sim_box t (hρ x ok))
 | load t a => exact sim_v (sim_loadAt t (hρ a ok))
 | store t a x =>
   simp only [okOp, Bool.and_eq_true] at ok
   exact sim_u (sim_storeAt t (hρ a ok.1) (hρ x ok.2))
 | binOp op t x y t' =>
   simp only [okOp, Bool.and_eq_true] at ok
   obtain ⟨⟨hx, hy⟩, hk⟩ := ok
   by_cases ho : op = .eql \/ op = .neq
   . have hk' : (keyOk P.c t = true \/ strOk P.c t = true) /\ P.c.eqGuardType P.c.depth t = false := by
       rcases ho with rfl | rfl <;> simpa using hk
     refine sim_v ?_
     refine Sim.bnd (sim_eqGuard op t x y (hρ x hx) (hρ y hy) hk'.2 (by rw [F.guard]; exact hk'.2)) ?_
     rintro R1 h1 _ _ _
     rcases hk'.1 with hk1 | hk1
     . exact sim_cmp op ho (keyOk_ok hk1) (h1.ok hR) ((hρ x hx).mono h1.le) ((hρ y hy).mono h1.le)
     . exact sim_cmpS op ho (strOk_ok hk1) (h1.ok hR) ((hρ x hx).mono h1.le) ((hρ y hy).mono h1.le)
   . have ho' : op ≠ .eql /\ op ≠ .neq := ⟨λ e => ho (.inl e), λ e => ho (.inr e)⟩
     refine sim_v ?_
     have hg : ∀ a b, eqGuard op t x y a b = Pure.pure () := λ a b => by
       unfold eqGuard
       cases op <;> first | rfl | exact absurd rfl ho'.1 | exact absurd rfl ho'.2
     rw [hg, hg]
     refine Sim.bnd (A := EqA) (Sim.ret rfl) ?_
     rintro R1 h1 _ _ _
     exact sim_arith op t ho' (h1.ok hR) ((hρ x hx).mono h1.le) ((hρ y hy).mono h1.le)
 | unOp op t x => exact sim_v (sim_unary op (hρ x ok))
 | convert s d x =>
   simp only [okOp, Bool.and_eq_true, Bool.or_eq_true] at ok
   rcases ok.2 with h | h
   . exact sim_v (sim_convInt h.1 h.2 (hρ x ok.1))
   . exact sim_v (sim_convStr h.1 h.2 (hρ x ok.1))
 | nilCheck x =>
   have := sim_nilChk (P := P) (hρ x ok)
   exact this.mono λ R' _ a b h => by
     obtain ⟨v, v', rfl, rfl, h⟩ := h
     exact .value h
 | build t ps => exact sim_v (sim_build F.zero t (okX_ps hρ ok))
 | buildSlice t n ps => exact sim_v (sim_buildSlice F.zero t n (okX_ps hρ ok))
 | makeFunc fn a b =>
   cases fn with
   | func f =>
     simp only [okOp, Bool.and_eq_true] at ok
     have ha := ArR.maps hρ ok.1.2
     have hb := ArR.maps hρ ok.2
     exact sim_v (Sim.ret (.func ok.1.1 ha.1 ha.2 hb.1 hb.2))
   | _ => cases ok
 | makeMap t r => exact sim_v (sim_makeMap t (okX_ov hρ ok))
 | makeSlice t l c =>
   simp only [okOp, Bool.and_eq_true] at ok
   exact sim_v (sim_makeSlice F.zero t (hρ l ok.1) (hρ c ok.2))
 | slice t x lo hi mx =>
   simp only [okOp, Bool.and_eq_true] at ok
   exact sim_v (sim_sliceAt t (hρ x ok.1.1.1) (okX_ov hρ ok.1.1.2) (okX_ov hρ ok.1.2) (okX_ov hρ ok.2))
 | fieldAddr t x f => exact sim_v (sim_fieldAt t (hρ x ok) f)
 | field t x f => exact sim_v (sim_field t (hρ x ok) f)
 | extract x i => exact sim_v (sim_extract (hρ x ok) i)
 | indexAddr t x i =>
   simp only [okOp, Bool.and_eq_true] at ok
   exact sim_v (sim_indexAt t (hρ x ok.1) (hρ i ok.2))
 | index t x i =>
   simp only [okOp, Bool.and_eq_true] at ok
   exact sim_v (sim_index t (hρ x ok.1) (hρ i ok.2))
 | lookup t x i c =>
   simp only [okOp, Bool.and_eq_true] at ok
   refine sim_v (sim_lookup F.zero (λ k e he => ?_) hR (hρ x ok.1.1) (hρ i ok.1.2) c)
   have hm := ok.2
   unfold mapOk at hm
   rw [show P.c.underlying t = some (.map k e) from he] at hm
   exact keyOk_ok hm
 | mapUpdate t m k x =>
   simp only [okOp, Bool.and_eq_true] at ok
   refine sim_u (sim_mapUpdate (λ k e he => ?_) hR (hρ m ok.1.1.1) (hρ k ok.1.1.2) (hρ x ok.1.2))
   have hm := ok.2
   unfold mapOk at hm
   rw [show P.c.underlying t = some (.map k e) from he] at hm
   exact keyOk_ok hm
 | call c =>
   obtain ⟨callee, args, ats⟩ := c
   cases callee with
   | value f =>
     simp only [okOp, Bool.and_eq_true] at ok
     have ha := ArR.maps hρ ok.2
     have key : (∀ g, f ≠ .func g) -> Sim P (SF q.fs) K (NA (SF q.fs) q.T K) (execOp ρ ⟨dst, .call ⟨.value f, args, ats⟩, type, pos, after, guard⟩) R (execOp ρ' ⟨dst, .call ⟨.value f, args, ats⟩, type, pos, after, guard⟩) := by
       intro hne
       have h1 : okX q.fs f = true /\ q.dy = true := by
         have := ok.1
         unfold okCall at this
         cases f with
         | func g => exact absurd rfl (hne g)
         | _ => simpa using this
       have hf := hρ f h1.1
       unfold execOp
       simp only [resolve]
       unfold Deferred.ofValue
       generalize ρ f = vf at hf ⊢
       generalize ρ' f = vf' at hf ⊢
       cases hf with
       | nilFunc =>
         refine .inl ?_
         intro w hw
         exact (never_runtimePanic (P := P) (α := Next) (e := .nilDeref)) w hw
       | junk _ =>
         refine .inl ?_
         intro w hw
         exact (never_runtimePanic (P := P) (α := Next) (e := .nilDeref)) w hw
       | func hs e1 h1' e2 h2 =>
         show Sim P _ K _ (callFunc _ _) R (callFunc _ _)
         exact sim_callFunc F (hqg _ (hqd h1.2 _ hs)) (hqd h1.2 _ hs) (ArR.append (ArR.append ⟨e1, h1'⟩ ha) ⟨e2, h2⟩)
       | _ => exact .inl (Never.bnd never_stuck _)
     cases f with
     | func g =>
       have hg : q.gs g = true := ok.1
       simp only [resolve]
       unfold Deferred.ofValue
       rw [hff, hff']
       show Sim P _ K _ (callFunc _ _) R (callFunc _ _)
       exact sim_callFunc F (hqg _ hg) hg (ArR.append (ArR.append ArR.empty ha) ArR.empty)
     | _ => exact key (λ g e => by cases e)
   | builtin b =>
     cases b with
     | len => exact sim_v (sim_len ats type (ArR.maps hρ ok))
     | cap => exact sim_v (sim_cap ats type (ArR.maps hρ ok))
     | max => exact sim_v (sim_max ats type (ArR.maps hρ ok))
     | min => exact sim_v (sim_min ats type (ArR.maps hρ ok))
     | copy => exact sim_v (sim_copy ats type (ArR.maps hρ ok))
     | append =>
       simp only [okOp, Bool.and_eq_true] at ok
       refine sim_v (sim_append F.zero type (λ xt d he hd k hk => ?_) (ArR.maps hρ ok.1))
       have h2 := ok.2
       unfold notIntT at h2
       rw [he] at h2
       have hd' : P.c.underlying xt = some d := hd
       simp only [hd'] at h2
       subst hk
       cases h2
     | delete =>
       simp only [okOp, Bool.and_eq_true] at ok
       refine sim_v (sim_delete type (λ mt k e he hd => ?_) hR (ArR.maps hρ ok.1))
       have h2 := ok.2
       rw [he] at h2
       simp only at h2
       unfold mapOk at h2
       rw [show P.c.underlying mt = some (.map k e) from hd] at h2
       exact keyOk_ok h2
     | _ => cases ok
   | invoke x y => cases ok
 | _ => cases ok
end
end Go.Tt
namespace Go.Tt
def tp (w : World) (T : Tape) (e : Nat) : World := { w with tape := T, drawn := e }
def Local {α : Type} (p : Program) (s : Sem α) (w : World) : Prop :=
 ∀ x w', s.run p w = .ok x w' -> w'.tape = w.tape /\ w.drawn <= w'.drawn /\ ∀ T e, (∀ n, n < w'.drawn - w.drawn -> ∀ q, T (e + n) q = w.tape (w.drawn + n) q) -> s.run p (tp w T e) = .ok x (tp w' T (e + (w'.drawn - w.drawn)))
theorem Local.no {α : Type} {p : Program} {s : Sem α} {w : World} (h : ∀ x w', s.run p w ≠ .ok x w') : Local p s w := λ x w' e => absurd e (h x w')
theorem Local.after {α : Type} {p : Program} {s s₁ : Sem α} {w w₁ : World} (h : Local p s₁ w₁) (hr : s.run p w = s₁.run p w₁) (ht : w₁.tape = w.tape) (hd : w₁.drawn = w.drawn) (hr' : ∀ T e, s.run p (tp w T e) = s₁.run p (tp w₁ T e)) : Local p s w := by
 intro x w' e
 rw [hr] at e
 obtain ⟨h1, h2, h3⟩ := h x w' e
 refine ⟨h1.trans ht, by omega, λ T e' ha => ?_⟩
 rw [hr', h3 T e' (λ n hn q => by rw [ha n (by omega) q, ht, hd])]
 rw [hd]
theorem Sim.locl {P : Pair} {S : FuncId -> Prop} {α β : Type} {K : Pr} {A : Pr -> α -> β -> Prop} {G : Nat} {St : Nat -> Prop} (hG : G = P.globals.size) (s : Sem α) :
   ∀ {R : Pr} {w W : World} {s' : Sem β}, Sim P S K A s R s' -> WRel S K R G St w W -> Tp w W -> Local P.g s w := by
 induction s with
 | pure a =>
   rintro R w W s' _ hw ht x w' e
   simp only [Sem.run, Result.ok.injEq] at e
   obtain ⟨rfl, rfl⟩ := e
   exact ⟨rfl, Nat.le_refl _, λ T e _ => by simp [Sem.run]⟩
 | load m a k ih =>
   rintro R w W s' (hn | ⟨rfl, a', k', rfl, ha, hk⟩) hw ht
   . exact .no (hn.no hw.np)
   obtain ⟨hab⟩ := ha
   rename_i b b' o sp
   obtain ⟨ob, ob', h1, h2, h3⟩ := hw.cont b b' hab
   cases h3 with
   | cells hc hz =>
     rename_i c c' T fz fz'
     cases sp with
     | some sp => exact .no λ x w' => by simp [Sem.run, World.cell?, h1, World.farLoad, World.noCell]
     | none =>
       cases hv : c[o]? with
       | none => exact .no λ x w' => by simp [Sem.run, World.cell?, h1, World.farLoad, World.noCell, hv]
       | some v =>
         obtain ⟨v', hv', hvv⟩ := hc.get hv
         have e1 : w.cell? ⟨b, o, none⟩ = some v := by simp [World.cell?, h1, hv]
         refine (ih v (hk v v' hvv) hw ht).after (by rw [Sem.run, e1]) rfl rfl λ T e => ?_
         rw [Sem.run, show (tp w T e).cell? ⟨b, o, none⟩ = some v from e1]
   | _ => exact .no λ x w' => by simp [Sem.run, World.cell?, h1, World.farLoad, World.noCell]
 | store m a v k ih =>
   rintro R w W s' (hn | ⟨rfl, a', v', k', rfl, ha, hv, hk⟩) hw ht
   . exact .no (hn.no hw.np)
   obtain ⟨hab⟩ := ha
   rename_i b b' o sp
   by_cases hna : ∃ cs, v = .agg cs
   . obtain ⟨cs, rfl⟩ := hna; exact .no λ x w' => by simp [Sem.run]
   by_cases hnt : ∃ cs, v = .tuple cs
   . obtain ⟨cs, rfl⟩ := hnt; exact .no λ x w' => by simp [Sem.run]
   have hrun : ∀ w : World, (Sem.store .plain ⟨b, o, sp⟩ v k).run P.g w = (match w.cell? ⟨b, o, sp⟩ with
       | some _ => if w.frozen? ⟨b, o, sp⟩ then .halt (.unsupported (.unsafePointer "a write to bytes that a string shares")) w else k.run P.g (w.setCell ⟨b, o, sp⟩ v)
       | none => match w.farStore P.g ⟨b, o, sp⟩ v (Mode.plain == .atomic) with
         | .ok (w, _) => k.run P.g w
         | .error h => .halt h w) := λ w => by
     rw [Sem.run]
     . rfl
     . exact λ cs e => hna ⟨cs, e⟩
     . exact λ cs e => hnt ⟨cs, e⟩
   obtain ⟨ob, ob', h1, h2, h3⟩ := hw.cont b b' hab
   cases h3 with
   | cells hc hz =>
     rename_i c c' T fz fz'
     cases sp with
     | some sp => exact .no λ x w' => by rw [hrun]; simp [World.cell?, h1, World.farStore, World.noCell]
     | none =>
       cases hv0 : c[o]? with
       | none => exact .no λ x w' => by rw [hrun]; simp [World.cell?, h1, World.farStore, World.noCell, hv0]
       | some v0 =>
         have e1 : w.cell? ⟨b, o, none⟩ = some v0 := by simp [World.cell?, h1, hv0]
         cases hfz : w.frozen? ⟨b, o, none⟩ with
         | true => exact .no λ x w' => by rw [hrun, e1]; simp [hfz]
         | false =>
           have nfz : ¬ inFz fz o := by
             intro ⟨z1, z2⟩
             simp [World.frozen?, h1, z1, z2] at hfz
           have hns : ¬ St b := by
             intro hs
             obtain ⟨_, c2, T2, hi, g1, g2⟩ := hw.st b hs
             rw [h1] at g1
             injection g1 with g1
             injection g1 with g1 _ g3
             subst g1 g3
             exact nfz ⟨Nat.zero_le _, Nat.lt_of_lt_of_le (Array.getElem?_eq_some_iff.1 hv0).1 g2⟩
           have st := WStep.upd hw hab hns (ObR.cells (T := T) (hc.set o hv) hz)
           refine (ih hk st.rel (ht.step st)).after (by rw [hrun, e1]; simp only [hfz, Bool.false_eq_true, if_false]; rw [setCell_eq h1]) rfl rfl λ T' e => ?_
           rw [hrun, show (tp w T' e).cell? ⟨b, o, none⟩ = some v0 from e1]
           simp only [show (tp w T' e).frozen? ⟨b, o, none⟩ = false from hfz, Bool.false_eq_true, if_false]
           rw [setCell_eq (w := tp w T' e) h1]
           rfl
   | _ => exact .no λ x w' => by rw [hrun]; simp [World.cell?, h1, World.farStore, World.noCell]
 | new o k ih =>
   rintro R w W s' (hn | ⟨o', k', rfl, ho, hk⟩) hw ht
   . exact .no (hn.no hw.np)
   have st := WStep.push hw ho
   exact (ih _ (hk _ _ ⟨λ b hb => absurd (hw.lt _ _ hb).1 (Nat.lt_irrefl _), λ a ha => absurd (hw.lt _ _ ha).2 (Nat.lt_irrefl _), by rw [<- hG]; exact hw.gle⟩) st.rel (ht.step st)).after (by rw [Sem.run]) rfl rfl λ T e => by rw [Sem.run]; rfl
 | shape r k ih =>
   rintro R w W s' (hn | ⟨r', k', rfl, hrr, hk⟩) hw ht
   . exact .no (hn.no hw.np)
   exact (ih _ (hk _) hw ht).after (by rw [Sem.run]) rfl rfl λ T e => by rw [Sem.run]; rfl
 | freeze a n k ih =>
   rintro R w W s' (hn | h) hw ht
   . exact .no (hn.no hw.np)
   . exact h.elim
 | frozen a k ih =>
   rintro R w W s' (hn | ⟨r', k', rfl, hk⟩) hw ht
   . exact .no (hn.no hw.np)
   exact (ih _ (hk _ true) hw ht).after (by rw [Sem.run]) rfl rfl λ T e => by rw [Sem.run]; rfl
 | getObj r k ih =>
   rintro R w W s' (hn | ⟨r', k', rfl, hrr, hk⟩) hw ht
   . exact .no (hn.no hw.np)
   rcases hw.orR hrr with y | y
   . obtain ⟨ob, ob', h1, h2, h3⟩ := hw.cont r r' y
     have go : (∀ c T fz, ob ≠ .cells c T fz) -> Local P.g (.getObj r k) w := λ n1 => by
       refine (ih ob (hk _ _ h3) hw ht).after ?_ rfl rfl λ T e => ?_
       . rw [Sem.run, h1]; cases ob <;> first | rfl | exact absurd rfl (n1 _ _ _)
       . rw [Sem.run, show (tp w T e).heap[r]? = some ob from h1]; cases ob <;> first | rfl | exact absurd rfl (n1 _ _ _)
     cases h3 with
     | cells _ _ => exact .no λ x w' => by rw [Sem.run, h1]; simp
     | _ => exact go (by simp)
   . exact .no λ x w' => by rw [Sem.run, y]; simp [waste]
 | setObj r o k ih =>
   rintro R w W s' (hn | ⟨r', o', k', rfl, hrr, ho, hk⟩) hw ht
   . exact .no (hn.no hw.np)
   rcases hw.orR hrr with y | y
   . obtain ⟨ob, ob', h1, h2, h3⟩ := hw.cont r r' y
     have go : (∀ c T fz, ob ≠ .cells c T fz) -> Local P.g (.setObj r o k) w := λ n1 => by
       have hns : ¬ St r := by
         intro hs
         obtain ⟨_, c2, T2, hi, g1, g2⟩ := hw.st r hs
         rw [h1] at g1
         injection g1 with g1
         exact n1 _ _ _ g1
       have st := WStep.upd hw y hns ho
       refine (ih hk st.rel (ht.step st)).after ?_ rfl rfl λ T e => ?_
       . rw [Sem.run, h1]; cases ob <;> first | rfl | exact absurd rfl (n1 _ _ _)
       . rw [Sem.run, show (tp w T e).heap[r]? = some ob from h1]; cases ob <;> first | rfl | exact absurd rfl (n1 _ _ _)
     cases h3 with
     | cells _ _ => exact .no λ x w' => by rw [Sem.run, h1]; simp
     | _ => exact go (by simp)
   . exact .no λ x w' => by rw [Sem.run, y]; simp [waste]
 | choose q k ih =>
   rintro R w W s' (hn | ⟨k', rfl, hk⟩) hw ht
   . exact .no (hn.no hw.np)
   cases hq : q.forced with
   | true => exact (ih 0 (hk 0) hw ht).after (by rw [Sem.run, hq]; rfl) rfl rfl λ T e => by rw [Sem.run, hq]; rfl
   | false =>
     have st := WStep.draw hw
     intro x w' e
     rw [Sem.run, hq] at e
     simp only [Bool.false_eq_true, if_false] at e
     obtain ⟨h1, h2, h3⟩ := ih _ (hk _) st.rel (ht.step st) x w' e
     simp only at h1 h2 h3
     refine ⟨h1, by omega, λ T e' ha => ?_⟩
     rw [Sem.run, hq]
     simp only [Bool.false_eq_true, if_false]
     have ea : T e' q = w.tape w.drawn q := ha 0 (by omega) q
     have := h3 T (e' + 1) (λ n hn q' => by rw [show e' + 1 + n = e' + (n + 1) by omega, show w.drawn + 1 + n = w.drawn + (n + 1) by omega]; exact ha (n + 1) (by omega) q')
     show Sem.run P.g (k (q.cut (T e' q))) (tp w T (e' + 1)) = _
     rw [ea]
     rw [show tp w T (e' + 1) = tp { w with drawn := w.drawn + 1 } T (e' + 1) from rfl, this]
     congr 2
     omega
 | sys c k ih =>
   rintro R w W s' (hn | h) hw ht
   . exact .no (hn.no hw.np)
   . exact h.elim
 | program k ih =>
   rintro R w W s' (hn | ⟨k', rfl, hk⟩) hw ht
   . exact .no (hn.no hw.np)
   exact (ih _ hk hw ht).after (by rw [Sem.run]) rfl rfl λ T e => by rw [Sem.run]
 | mark m k ih =>
   rintro R w W s' (hn | ⟨rfl, k', rfl, hk⟩) hw ht
   . exact .no (hn.no hw.np)
   exact (ih hk hw ht).after (by rw [Sem.run]) rfl rfl λ T e => by rw [Sem.run]
 | halt h =>
   rintro R w W s' _ hw ht
   exact .no λ x w' => by simp [Sem.run]
end Go.Tt
namespace Go.Tt
open Go.Conc (G)
structure Fm where
 fn : FuncId
 tmps : Array Value
 todo : List Item
 ret : Bool
def Fm.fr (m : Fm) : Frame := { fn := m.fn, tmps := m.tmps, todo := m.todo, defers := [], mode := if m.ret then .returning else .run, kind := .normal }
def Fm.eval (m : Fm) : Operand -> Value
 | .tmp t => m.tmps.getD t undef
 | .const v => v
 | .global g => .pointer (some ⟨g, 0, none⟩)
 | .func f => .func (.func f) #[] #[]
def Fm.fin (m : Fm) (ops : Array Oper) (i : Nat) (rest : List Nat) (k : List Item) (v : Value) : Fm :=
 { m with tmps := match (ops[i]?).bind (·.dst) with | some d => m.tmps.setIfInBounds d v | none => m.tmps, todo := .inRegion ops rest :: k }
def resOne (t : Array Value) : ResultVar -> Sem Value
 | .tmp s => pure (t.getD s undef)
 | .cell s ty => do loadVar ty (<- asAddr (t.getD s undef))
def resS : List ResultVar -> Array Value -> Sem Value
 | [], _ => pure (.tuple #[])
 | [a], t => resOne t a
 | [a, b], t => do
   let x <- resOne t a
   let y <- resOne t b
   pure (.tuple #[x, y])
 | [a, b, c], t => do
   let x <- resOne t a
   let y <- resOne t b
   let z <- resOne t c
   pure (.tuple #[x, y, z])
 | _, _ => stuck ""
def plainRes (l : List ResultVar) : Prop := l = [] \/ (∃ a, l = [a]) \/ (∃ a b, l = [a, b]) \/ ∃ a b c, l = [a, b, c]
theorem results_resS {fn : Func} {tmps : Array Value} (h : plainRes fn.results.toList) : results fn tmps = resS fn.results.toList tmps := by
 rcases h with e | ⟨a, e⟩ | ⟨a, b, e⟩ | ⟨a, b, c, e⟩
 . have e' : fn.results = #[] := Array.toList_inj.1 e
   simp [results, e', resS]
 . have e' : fn.results = #[a] := Array.toList_inj.1 e
   rw [e]
   cases a <;> simp [results, e', resS, resOne]
 . have e' : fn.results = #[a, b] := Array.toList_inj.1 e
   rw [e]
   cases a <;> cases b <;> simp [results, e', resS, resOne]
 . have e' : fn.results = #[a, b, c] := Array.toList_inj.1 e
   rw [e]
   cases a <;> cases b <;> cases c <;> simp [results, e', resS, resOne]
def TF {α : Type} (p : Program) (s : Sem α) : Prop := ∀ w x w', s.run p w = .ok x w' -> w' = w /\ ∀ T e, s.run p (tp w T e) = .ok x (tp w T e)
theorem TF.ret {α : Type} {p : Program} (a : α) : TF p (Pure.pure a : Sem α) := λ w x w' h => by
 simp only [Pure.pure, Sem.run, Result.ok.injEq] at h
 obtain ⟨rfl, rfl⟩ := h
 exact ⟨rfl, λ T e => rfl⟩
theorem TF.bnd {α β : Type} {p : Program} {s : Sem α} {f : α -> Sem β} (hs : TF p s) (hf : ∀ a, TF p (f a)) : TF p (s >>= f) := λ w x w' h => by
 have h2 := (Sem.run_bind' p s f w).symm.trans h
 cases hx : s.run p w with
 | halt y w2 => rw [hx] at h2; cases h2
 | ok a w1 =>
   rw [hx] at h2
   obtain ⟨rfl, h3⟩ := hs w a w1 hx
   obtain ⟨rfl, h4⟩ := hf a w1 x w' h2
   refine ⟨rfl, λ T e => (Sem.run_bind' p s f _).trans ?_⟩
   rw [h3 T e]
   exact h4 T e
theorem TF.halt {α : Type} {p : Program} {s : Sem α} (h : ∀ w x w', s.run p w ≠ .ok x w') : TF p s := λ w x w' e => absurd e (h w x w')
theorem tf_stuck {α : Type} {p : Program} {why : String} : TF p (stuck why : Sem α) := TF.halt λ w x w' e => by simp [stuck, Sem.run] at e
theorem tf_program {p : Program} : TF p program := λ w x w' h => by
 simp only [program, Sem.run, Result.ok.injEq] at h
 obtain ⟨rfl, rfl⟩ := h
 exact ⟨rfl, λ T e => rfl⟩
theorem tf_load {p : Program} (a : Addr) : TF p (load a) := λ w x w' h => by
 unfold load at h ⊢
 simp only [Sem.run] at h ⊢
 cases hc : w.cell? a with
 | none =>
   rw [hc] at h
   simp only at h
   cases hf : World.farLoad p w a (Mode.plain == Mode.atomic) with
   | error y => rw [hf] at h; cases h
   | ok v =>
     rw [hf] at h
     simp only [Result.ok.injEq] at h
     refine ⟨h.2.symm, λ T e => ?_⟩
     have e1 : (tp w T e).cell? a = none := hc
     have e2 : World.farLoad p (tp w T e) a (Mode.plain == Mode.atomic) = .ok v := (show World.farLoad p (tp w T e) a (Mode.plain == Mode.atomic) = World.farLoad p w a (Mode.plain == Mode.atomic) from rfl).trans hf
     rw [e1, e2]
     simp only [h.1]
 | some v =>
   rw [hc] at h
   simp only [Result.ok.injEq] at h
   refine ⟨h.2.symm, λ T e => ?_⟩
   have : (tp w T e).cell? a = some v := hc
   rw [this, h.1]
theorem tf_underlying {p : Program} (t : TypeId) : TF p (underlying t) := by
 unfold underlying
 refine tf_program.bnd λ q => ?_
 split
 . exact .ret _
 . exact tf_stuck
theorem tf_isAgg {p : Program} (t : TypeId) : TF p (isAgg t) := by
 unfold isAgg
 refine (tf_underlying t).bnd λ q => ?_
 split <;> exact .ret _
theorem tf_sizeOf {p : Program} (t : TypeId) : TF p (sizeOf t) := by
 unfold sizeOf typeInfo
 refine TF.bnd (tf_program.bnd λ q => ?_) λ i => .ret _
 split
 . exact .ret _
 . exact tf_stuck
theorem tf_loadCells {p : Program} (a : Addr) : ∀ (n i : Nat) (acc : Array Value), TF p (loadCellsFrom a i n acc)
 | 0, i, acc => .ret _
 | n + 1, i, acc => (tf_load _).bnd λ v => tf_loadCells a n (i + 1) (acc.push v)
theorem tf_loadVar {p : Program} (t : TypeId) (a : Addr) : TF p (loadVar t a) := by
 unfold loadVar
 refine (tf_isAgg t).bnd λ b => ?_
 split
 . exact (tf_sizeOf t).bnd λ n => (tf_loadCells a n 0 #[]).bnd λ x => .ret _
 . exact tf_load a
theorem tf_resOne {p : Program} (t : Array Value) (r : ResultVar) : TF p (resOne t r) := by
 cases r with
 | tmp s => exact .ret _
 | cell s ty =>
   refine TF.bnd ?_ λ a => tf_loadVar ty a
   unfold asAddr
   split
   . exact .ret _
   . exact TF.halt λ w x w' e => by simp [runtimePanic, goPanic, Sem.run, bind, Sem.bind, program] at e
   . exact tf_stuck
theorem tf_resS {p : Program} (t : Array Value) : ∀ l : List ResultVar, TF p (resS l t)
 | [] => .ret _
 | [a] => tf_resOne t a
 | [a, b] => (tf_resOne t a).bnd λ x => (tf_resOne t b).bnd λ y => .ret _
 | [a, b, c] => (tf_resOne t a).bnd λ x => (tf_resOne t b).bnd λ y => (tf_resOne t c).bnd λ z => .ret _
 | _ :: _ :: _ :: _ :: _ => tf_stuck
theorem resS_plain {p : Program} {l : List ResultVar} {t : Array Value} {w w' : World} {v : Value} (h : (resS l t).run p w = .ok v w') : plainRes l := by
 match l, h with
 | [], _ => exact .inl rfl
 | [a], _ => exact .inr (.inl ⟨a, rfl⟩)
 | [a, b], _ => exact .inr (.inr (.inl ⟨a, b, rfl⟩))
 | [a, b, c], _ => exact .inr (.inr (.inr ⟨a, b, c, rfl⟩))
 | a :: b :: c :: d :: l, h => simp [resS, stuck, Sem.run] at h
def opS (p : Program) (m : Fm) (ms : List Fm) (ops : Array Oper) (i : Nat) (rest : List Nat) (k : List Item) : Next -> Sem (Fm × List Fm)
 | .value v => pure (m.fin ops i rest k v, ms)
 | .skip => pure (m.fin ops i rest k undef, ms)
 | .enter f args =>
   match p.funcs[f]? with
   | some fn => (match fn.body with
     | some c => pure (⟨f, args ++ Array.replicate (fn.ntmps - args.size) undef, [.code c], false⟩, m :: ms)
     | none => stuck "")
   | none => stuck ""
 | _ => stuck ""
def retS (p : Program) (m : Fm) : List Fm -> Sem (Fm × List Fm)
 | [] => stuck ""
 | c :: rest =>
   match c.todo, p.funcs[m.fn]? with
   | .inRegion ops (i :: r) :: k, some fn => do
     let v <- resS fn.results.toList m.tmps
     pure (c.fin ops i r k v, rest)
   | _, _ => stuck ""
theorem retS_inv {p : Program} {m c m1 : Fm} {rest ms1 : List Fm} {w w1 : World} (h : (retS p m (c :: rest)).run p w = .ok (m1, ms1) w1) :
   ∃ ops i r k v fn, c.todo = .inRegion ops (i :: r) :: k /\ p.funcs[m.fn]? = some fn /\ (resS fn.results.toList m.tmps).run p w = .ok v w1 /\ m1 = c.fin ops i r k v /\ ms1 = rest := by
 unfold retS at h
 simp only at h
 split at h
 . next ops i r k fn hc hf =>
   have h2 := (Sem.run_bind' p _ _ w).symm.trans h
   cases hx : (resS fn.results.toList m.tmps).run p w with
   | halt y w2 => rw [hx] at h2; cases h2
   | ok v w2 =>
     rw [hx] at h2
     simp only [Result.andThen, Pure.pure, Sem.run, Result.ok.injEq, Prod.mk.injEq] at h2
     obtain ⟨⟨rfl, rfl⟩, rfl⟩ := h2
     exact ⟨ops, i, r, k, v, fn, hc, hf, hx, rfl, rfl⟩
 . simp [stuck, Sem.run] at h
theorem retS_mk {p : Program} {m c : Fm} {rest : List Fm} {w w1 : World} {ops : Array Oper} {i : Nat} {r : List Nat} {k : List Item} {v : Value} {fn : Func} (hc : c.todo = .inRegion ops (i :: r) :: k) (hf : p.funcs[m.fn]? = some fn) (hv : (resS fn.results.toList m.tmps).run p w = .ok v w1) :
   (retS p m (c :: rest)).run p w = .ok (c.fin ops i r k v, rest) w1 /\ ∀ es, (retS p m (c :: rest)).events p w es = (resS fn.results.toList m.tmps).events p w es := by
 unfold retS
 simp only [hc, hf]
 constructor
 . refine (Sem.run_bind' p _ _ w).trans ?_
   rw [hv]; rfl
 . intro es
   refine (Sem.events_bind' p _ _ w es).trans ?_
   rw [hv, Result.evThen_ok]; rfl
def runS (p : Program) (m : Fm) (ms : List Fm) : Sem (Fm × List Fm) :=
 match m.todo with
 | [] => pure ({ m with ret := true }, ms)
 | .code .ret :: _ => pure ({ m with ret := true }, ms)
 | .code .skip :: k => pure ({ m with todo := k }, ms)
 | .code (.label _) :: k => pure ({ m with todo := k }, ms)
 | .inBlock _ :: k => pure ({ m with todo := k }, ms)
 | .inScope _ :: k => pure ({ m with todo := k }, ms)
 | .code (.seq a b) :: k => pure ({ m with todo := .code a :: .code b :: k }, ms)
 | .code (.cond c a b) :: k => (match m.eval c with
   | .bool t => pure ({ m with todo := .code (if t then a else b) :: k }, ms)
   | _ => stuck "")
 | .code (.block id body) :: k => pure ({ m with todo := .code body :: .inBlock id :: k }, ms)
 | .code (.loop body) :: k => pure ({ m with todo := .code body :: .inLoop body :: k }, ms)
 | .inLoop body :: k => pure ({ m with todo := .code body :: .inLoop body :: k }, ms)
 | .code (.scope body) :: k => pure ({ m with todo := .code body :: .inScope body :: k }, ms)
 | .code (.exit id) :: k => (match exitTo id k with
   | some k' => pure ({ m with todo := k' }, ms)
   | none => stuck "")
 | .code (.region id ops draw) :: k =>
   if draw then do
     let t <- choose (.order m.fn id)
     pure ({ m with todo := .inRegion ops (Region.schedule (p.follows .mixedOrders) ops t) :: k }, ms)
   else pure ({ m with todo := .inRegion ops (List.range ops.size) :: k }, ms)
 | .inRegion _ [] :: k => pure ({ m with todo := k }, ms)
 | .inRegion ops (i :: rest) :: k =>
   if ((ops[i]?).map (Region.wanted . (yielded ops m.tmps))).getD false then
     match ops[i]? with
     | some o => do
       let n <- execOp m.eval o
       opS p m ms ops i rest k n
     | none => stuck ""
   else pure (m.fin ops i rest k undef, ms)
 | _ => stuck ""
def stepS (p : Program) (m : Fm) (ms : List Fm) : Sem (Fm × List Fm) := if m.ret then retS p m ms else runS p m ms
theorem Fm.eval_fr (m : Fm) : m.fr.eval = m.eval := by funext x; cases x <;> rfl
theorem Fm.fr_run {m : Fm} (h : m.ret = false) : m.fr = { fn := m.fn, tmps := m.tmps, todo := m.todo, defers := [], mode := .run, kind := .normal } := by simp [Fm.fr, h]
theorem Fm.fr_ret {m : Fm} (h : m.ret = true) : m.fr = { fn := m.fn, tmps := m.tmps, todo := m.todo, defers := [], mode := .returning, kind := .normal } := by simp [Fm.fr, h]
theorem finish_fr {m : Fm} {ops : Array Oper} {i : Nat} {rest : List Nat} {k : List Item} (h : m.todo = .inRegion ops (i :: rest) :: k) (v : Value) : m.fr.finish v = (m.fin ops i rest k v).fr := by
 simp only [Frame.finish, Fm.fr, Fm.fin, h]
 cases (ops[i]?).bind (·.dst) <;> rfl
theorem enter_fr {p : Program} {f : FuncId} {fn : Func} {c : Code} {args : Array Value} (hf : p.funcs[f]? = some fn) (hb : fn.body = some c) :
   Frame.enter p f args .normal = (⟨f, args ++ Array.replicate (fn.ntmps - args.size) undef, [.code c], false⟩ : Fm).fr := by
 simp [Frame.enter, Fm.fr, hf, hb]
theorem stepG_stepS {p : Program} {main : Bool} {m m' : Fm} {ms ms' : List Fm} {w w' : World} (h : (stepS p m ms).run p w = .ok (m', ms') w') (base : List Frame) :
   stepG p main (G m.fr (ms.map Fm.fr ++ base)) w = .go (G m'.fr (ms'.map Fm.fr ++ base)) w' (seen p m.fn ((stepS p m ms).events p w #[])) := by
 have none0 : seen p m.fn #[] = #[] := Conc.seen_none p _
 unfold stepS at h ⊢
 by_cases hr : m.ret = true
 . simp only [hr, if_true] at h ⊢
   cases ms with
   | nil => simp [retS, stuck, Sem.run] at h
   | cons c rest =>
     obtain ⟨ops, i, r, k, v, fn, hc, hf, hv, rfl, rfl⟩ := retS_inv h
     rw [(retS_mk hc hf hv).2]
     have he : results fn m.tmps = resS fn.results.toList m.tmps := results_resS (resS_plain hv)
     rw [Fm.fr_ret hr, List.map_cons, List.cons_append]
     have hfin : c.fr.finish v = (c.fin ops i r k v).fr := finish_fr hc v
     rw [<- hfin]
     simp [G, stepG, unwind, doReturn, hf, he, hv, GStep.after]
 . have hr' : m.ret = false := by simpa using hr
   simp only [hr', Bool.false_eq_true, if_false] at h ⊢
   have hev : m.fr.eval = m.eval := m.eval_fr
   rw [Fm.fr_run hr'] at hev ⊢
   obtain ⟨fn, tmps, todo, ret⟩ := m
   simp only at hr' hr none0 hev ⊢
   subst hr'
   unfold runS at h ⊢
   simp only at h ⊢
   split at h
   all_goals first
     | (simp [stuck, Sem.run] at h; done)
     | (simp only [Pure.pure, Sem.run, Result.ok.injEq, Prod.mk.injEq] at h
        obtain ⟨⟨rfl, rfl⟩, rfl⟩ := h
        simp [G, stepG, stepG.exec, Fm.fr, none0, GStep.after]
        done)
     | skip
   case h_8 _ c a b k =>
     generalize hv : Fm.eval { fn := fn, tmps := tmps, todo := Item.code (Code.cond c a b) :: k, ret := false } c = v at h ⊢
     have hc : Frame.eval { fn := fn, tmps := tmps, todo := Item.code (Code.cond c a b) :: k, defers := [], mode := .run, kind := .normal } c = v := (congrFun hev c).trans hv
     cases v with
     | bool t =>
       simp only [Pure.pure, Sem.run, Result.ok.injEq, Prod.mk.injEq] at h
       obtain ⟨⟨rfl, rfl⟩, rfl⟩ := h
       simp [G, stepG, stepG.exec, Fm.fr, none0, hc]
     | _ => simp [stuck, Sem.run] at h
   case h_13 _ id k =>
     cases he : exitTo id k with
     | some k' =>
       rw [he] at h
       simp only [Pure.pure, Sem.run, Result.ok.injEq, Prod.mk.injEq] at h
       obtain ⟨⟨rfl, rfl⟩, rfl⟩ := h
       simp [G, stepG, stepG.exec, Fm.fr, none0, he]
     | none => rw [he] at h; simp [stuck, Sem.run] at h
   case h_14 _ id ops draw k =>
     cases draw with
     | true =>
       simp [choose, Sem.run, Question.forced, Question.cut, bind, Sem.bind, pure] at h
       obtain ⟨⟨rfl, rfl⟩, rfl⟩ := h
       simp [G, stepG, stepG.exec, Fm.fr, none0, choose, Sem.run, Question.forced, Question.cut, Sem.events, Sem.runT, bind, Sem.bind, pure]
     | false =>
       simp only [Bool.false_eq_true, if_false, Pure.pure, Sem.run, Result.ok.injEq, Prod.mk.injEq] at h
       obtain ⟨⟨rfl, rfl⟩, rfl⟩ := h
       simp [G, stepG, stepG.exec, Fm.fr, none0]
   case h_16 _ ops i rest k =>
     have hae : ∀ x, Act.eval ⟨tmps, []⟩ x = Fm.eval { fn := fn, tmps := tmps, todo := Item.inRegion ops (i :: rest) :: k, ret := false } x := λ x => by cases x <;> rfl
     have hae' : Act.eval ⟨tmps, []⟩ = Fm.eval { fn := fn, tmps := tmps, todo := Item.inRegion ops (i :: rest) :: k, ret := false } := funext hae
     have hfin : ∀ v, (Conc.base fn).at (Act.put ⟨tmps, []⟩ ((ops[i]?).bind (·.dst)) v) (.inRegion ops rest :: k) = (Fm.fin { fn := fn, tmps := tmps, todo := Item.inRegion ops (i :: rest) :: k, ret := false } ops i rest k v).fr := λ v => by
       unfold Fm.fin Act.put
       cases (ops[i]?).bind (·.dst) <;> rfl
     have hb : (Conc.base fn).kind ≠ .early := by simp [Conc.base]
     cases ho : ops[i]? with
     | none =>
       rw [ho] at h
       simp only [Option.map_none, Option.getD_none, Bool.false_eq_true, if_false, Pure.pure, Sem.run, Result.ok.injEq, Prod.mk.injEq] at h
       obtain ⟨⟨rfl, rfl⟩, rfl⟩ := h
       have hff := finish_fr (m := { fn := fn, tmps := tmps, todo := Item.inRegion ops (i :: rest) :: k, ret := false }) rfl undef
       have hfr : (Fm.fr { fn := fn, tmps := tmps, todo := Item.inRegion ops (i :: rest) :: k, ret := false }) = { fn := fn, tmps := tmps, todo := Item.inRegion ops (i :: rest) :: k, defers := [], mode := .run, kind := .normal } := rfl
       rw [hfr] at hff
       simp [G, stepG, stepG.exec, none0, ho, hff]
     | some o =>
       rw [ho] at h
       simp only [ho, Option.bind_some] at hfin
       simp only [Option.map_some, Option.getD_some] at h ⊢
       by_cases hw : Region.wanted o (yielded ops tmps) = true
       . rw [if_pos hw] at h
         rw [if_pos hw]
         have hrb := Sem.run_bind' p (execOp (Fm.eval { fn := fn, tmps := tmps, todo := Item.inRegion ops (i :: rest) :: k, ret := false }) o) (opS p { fn := fn, tmps := tmps, todo := Item.inRegion ops (i :: rest) :: k, ret := false } ms ops i rest k) w
         have h' := hrb.symm.trans h
         have hevb := Sem.events_bind' p (execOp (Fm.eval { fn := fn, tmps := tmps, todo := Item.inRegion ops (i :: rest) :: k, ret := false }) o) (opS p { fn := fn, tmps := tmps, todo := Item.inRegion ops (i :: rest) :: k, ret := false } ms ops i rest k) w #[]
         cases hx : (execOp (Fm.eval { fn := fn, tmps := tmps, todo := Item.inRegion ops (i :: rest) :: k, ret := false }) o).run p w with
         | halt y w1 => rw [hx] at h'; cases h'
         | ok n w1 =>
           rw [hx] at h' hevb
           have hx' : (execOp (Act.eval ⟨tmps, []⟩) o).run p w = .ok n w1 := by rw [hae']; exact hx
           have hl : Conc.listed p fn ⟨tmps, []⟩ o w = seen p fn ((execOp (Fm.eval { fn := fn, tmps := tmps, todo := Item.inRegion ops (i :: rest) :: k, ret := false }) o).events p w #[]) := by unfold Conc.listed; rw [hae']
           have h2 : (opS p { fn := fn, tmps := tmps, todo := Item.inRegion ops (i :: rest) :: k, ret := false } ms ops i rest k n).run p w1 = .ok (m', ms') w' := h'
           have fine : ∀ (r : Fm × List Fm) (K : Sem (Fm × List Fm)), opS p { fn := fn, tmps := tmps, todo := Item.inRegion ops (i :: rest) :: k, ret := false } ms ops i rest k n = Pure.pure r ->
               (m', ms') = r /\ w' = w1 /\ seen p fn ((do let n <- execOp (Fm.eval { fn := fn, tmps := tmps, todo := Item.inRegion ops (i :: rest) :: k, ret := false }) o; opS p { fn := fn, tmps := tmps, todo := Item.inRegion ops (i :: rest) :: k, ret := false } ms ops i rest k n : Sem (Fm × List Fm)).events p w #[]) = Conc.listed p fn ⟨tmps, []⟩ o w := λ r _ e => by
             rw [e] at h2
             simp only [Pure.pure, Sem.run, Result.ok.injEq] at h2
             refine ⟨h2.1.symm, h2.2.symm, ?_⟩
             rw [hl]
             congr 1
             refine hevb.trans ?_
             rw [Result.evThen_ok, e]; rfl
           cases n with
           | value v =>
             obtain ⟨e1, rfl, e3⟩ := fine _ (stuck "") rfl
             injection e1 with e1 e2
             subst e1 e2
             rw [e3]
             have := Conc.stepG_value (main := main) (b := Conc.base fn) (a := ⟨tmps, []⟩) (rest := rest) (k := k) (cs := List.map Fm.fr ms' ++ base) ho hw hb hx'
             rw [hfin] at this
             exact this
           | skip =>
             obtain ⟨e1, rfl, e3⟩ := fine _ (stuck "") rfl
             injection e1 with e1 e2
             subst e1 e2
             rw [e3]
             have := Conc.stepG_none (main := main) (b := Conc.base fn) (a := ⟨tmps, []⟩) (rest := rest) (k := k) (cs := List.map Fm.fr ms' ++ base) ho hw hb hx'
             rw [hfin] at this
             exact this
           | enter f args =>
             have h3 := h2
             simp only [opS] at h3
             cases hf : p.funcs[f]? with
             | none => rw [hf] at h3; simp [stuck, Sem.run] at h3
             | some fn2 =>
               cases hbd : fn2.body with
               | none => rw [hf] at h3; simp only [hbd] at h3; simp [stuck, Sem.run] at h3
               | some c =>
                 obtain ⟨e1, rfl, e3⟩ := fine _ (stuck "") (by simp only [opS, hf, hbd]; rfl)
                 injection e1 with e1 e2
                 subst e1 e2
                 rw [e3]
                 have := Conc.stepG_enter (main := main) (b := Conc.base fn) (a := ⟨tmps, []⟩) (rest := rest) (k := k) (cs := List.map Fm.fr ms ++ base) ho hw hb hx'
                 rw [enter_fr hf hbd] at this
                 exact this
           | _ => simp [opS, stuck, Sem.run] at h2
       . rw [if_neg hw] at h
         rw [if_neg hw]
         simp only [Pure.pure, Sem.run, Result.ok.injEq, Prod.mk.injEq] at h
         obtain ⟨⟨rfl, rfl⟩, rfl⟩ := h
         have := Conc.stepG_unwanted (P := p) (main := main) (b := Conc.base fn) (a := ⟨tmps, []⟩) (rest := rest) (k := k) (cs := List.map Fm.fr ms ++ base) (w := w) ho (by simpa using hw)
         rw [hfin] at this
         rw [show seen p fn (Sem.events p (Pure.pure (Fm.fin { fn := fn, tmps := tmps, todo := Item.inRegion ops (i :: rest) :: k, ret := false } ops i rest k undef, ms) : Sem (Fm × List Fm)) w #[]) = #[] from none0]
         exact this
end Go.Tt
namespace Go.Tt
def fitItem (p : Program) (q : Cl) : Item -> Bool
 | .code c | .inLoop c | .inScope c => fitCode p q c
 | .inBlock _ => true
 | .inRegion ops _ => ops.all λ o => okOp p q o.op
 | _ => false
def Wait (m : Fm) : Prop := m.ret = false /\ ∃ ops i r k, m.todo = .inRegion ops (i :: r) :: k
section
variable (P : Pair) (fs : FuncId -> Bool) (K R : Pr)
structure FmR (m m' : Fm) : Prop where
 fn : m.fn = m'.fn
 todo : m.todo = m'.todo
 ret : m.ret = m'.ret
 tmps : ArR (SF fs) K R m.tmps m'.tmps
 fit : ∀ i ∈ m.todo, fitItem P.c (cls P fs m.fn) i = true
 infs : ∃ fn fn', P.g.funcs[m.fn]? = some fn /\ P.c.funcs[m.fn]? = some fn' /\ fn.results = fn'.results /\ plainRes fn.results.toList
inductive MsR : List Fm -> List Fm -> Prop
 | nil : MsR [] []
 | cons {m m' : Fm} {ms ms' : List Fm} : FmR P fs K R m m' -> Wait m -> MsR ms ms' -> MsR (m :: ms) (m' :: ms')
end
structure Fit2 (P : Pair) (fs : FuncId -> Bool) : Prop extends Fit P fs where
 res : ∀ f, P.gs f = true -> P.op f = false -> ∀ fn, P.c.funcs[f]? = some fn -> plainRes fn.results.toList
 follows : P.g.follows .mixedOrders = P.c.follows .mixedOrders
section
variable {P : Pair} {fs : FuncId -> Bool} {K R R' : Pr}
theorem FmR.mono (h : R.le R') {m m' : Fm} (x : FmR P fs K R m m') : FmR P fs K R' m m' := ⟨x.fn, x.todo, x.ret, x.tmps.mono h, x.fit, x.infs⟩
theorem MsR.mono (h : R.le R') {ms ms' : List Fm} (x : MsR P fs K R ms ms') : MsR P fs K R' ms ms' := by
 induction x with
 | nil => exact .nil
 | cons a b _ ih => exact .cons (a.mono h) b ih
theorem vr_undef {S : FuncId -> Prop} : VR S K R undef undef := .tuple rfl (λ i v v' h => by simp at h)
theorem FmR.eval {m m' : Fm} (x : FmR P fs K R m m') : ∀ o, okX fs o = true -> VR (SF fs) K R (m.eval o) (m'.eval o) := by
 intro o ho
 cases o with
 | tmp t => exact x.tmps.getD t vr_undef
 | const v => exact okConst_ok ho
 | global g => cases ho
 | func f => exact .func ho rfl (λ i v v' h => by simp at h) rfl (λ i v v' h => by simp at h)
def entF (p : Program) (f : FuncId) (xs : Array Value) : Fm :=
 match p.funcs[f]? with
 | some fn => (match fn.body with
   | some c => ⟨f, xs ++ Array.replicate (fn.ntmps - xs.size) undef, [.code c], false⟩
   | none => ⟨f, xs, [], false⟩)
 | none => ⟨f, xs, [], false⟩
structure OpR (P : Pair) (fs : FuncId -> Bool) (K R : Pr) (x y : Fm × List Fm) : Prop where
 ex : ∃ f xs xs' c c' rest rest', P.op f = true /\ P.gs f = true /\ ArR (SF fs) K R xs xs' /\ x = (entF P.g f xs, c :: rest) /\ y = (entF P.c f xs', c' :: rest') /\ FmR P fs K R c c' /\ Wait c /\ MsR P fs K R rest rest' /\ P.lw c.fn = false
abbrev StA (P : Pair) (fs : FuncId -> Bool) (K : Pr) (l : Bool) : Pr -> (Fm × List Fm) -> (Fm × List Fm) -> Prop := λ R x y =>
 (FmR P fs K R x.1 y.1 /\ MsR P fs K R x.2 y.2 /\ (l = true -> P.lw x.1.fn = true /\ ∀ c ∈ x.2, P.lw c.fn = true)) \/ (l = false /\ OpR P fs K R x y)
theorem FmR.fin {m m' : Fm} (x : FmR P fs K R m m') {ops : Array Oper} {i : Nat} {rest : List Nat} {k : List Item} (h : m.todo = .inRegion ops (i :: rest) :: k) {v v' : Value} (hv : VR (SF fs) K R v v') :
   FmR P fs K R (m.fin ops i rest k v) (m'.fin ops i rest k v') := by
 refine ⟨x.fn, rfl, x.ret, ?_, λ j hj => ?_, x.infs⟩
 . unfold Fm.fin
   cases (ops[i]?).bind (·.dst) with
   | none => exact x.tmps
   | some d => exact x.tmps.set d hv
 . simp only [Fm.fin, List.mem_cons] at hj
   rcases hj with rfl | hj
   . have := x.fit (.inRegion ops (i :: rest)) (by rw [h]; simp)
     exact this
   . exact x.fit j (by rw [h]; simp [hj])
abbrev LowS (P : Pair) (l : Bool) (m : Fm) (ms : List Fm) : Prop := l = true -> P.lw m.fn = true /\ ∀ c ∈ ms, P.lw c.fn = true
theorem ArR.pad {xs xs' : Array Value} (ha : ArR (SF fs) K R xs xs') (n : Nat) : ArR (SF fs) K R (xs ++ Array.replicate (n - xs.size) undef) (xs' ++ Array.replicate (n - xs'.size) undef) := by
 rw [ha.1]
 refine ha.append ⟨by simp, λ j v v' h1 h2 => ?_⟩
 rw [Array.getElem?_replicate] at h1 h2
 split at h1
 . rename_i hj
   rw [if_pos hj] at h2
   cases h1; cases h2; exact vr_undef
 . cases h1
theorem cls_gs (F : Fit P fs) (g : FuncId) : ∀ f, (cls P fs g).gs f = true -> P.gs f = true := λ f h => by
 unfold cls at h
 split at h
 . exact (F.low f h).2
 . exact h
theorem cls_dy (F : Fit P fs) (g : FuncId) : (cls P fs g).dy = true -> ∀ f, fs f = true -> (cls P fs g).gs f = true := λ h f hf => by
 unfold cls at h ⊢
 split at h
 . cases h
 . next e => rw [if_neg e]; exact F.dyn h f hf
theorem sim_opS (F : Fit2 P fs) {l : Bool} {m m' : Fm} {ms ms' : List Fm} (hm : FmR P fs K R m m') (hms : MsR P fs K R ms ms') (hlow : LowS P l m ms) (hr : m.ret = false) {ops : Array Oper} {i : Nat} {rest : List Nat} {k : List Item} (h : m.todo = .inRegion ops (i :: rest) :: k) {n n' : Next} (hn : NxR (SF fs) (cls P fs m.fn).T K R n n') :
   Sim P (SF fs) K (StA P fs K l) (opS P.g m ms ops i rest k n) R (opS P.c m' ms' ops i rest k n') := by
 cases hn with
 | value hv => exact Sim.ret (.inl ⟨hm.fin h hv, hms, hlow⟩)
 | skip => exact Sim.ret (.inl ⟨hm.fin h vr_undef, hms, hlow⟩)
 | enter hT ha =>
   rename_i f xs xs'
   have hlf : P.lw m.fn = true -> P.lw f = true := λ e => by
     unfold cls at hT
     rw [if_pos e] at hT
     exact hT
   have hf : P.gs f = true := cls_gs F.toFit m.fn f hT
   cases ho : P.op f with
   | false =>
     obtain ⟨fn, c, e1, e2, e3, e4, e5⟩ := F.fn f hf ho
     simp only [opS, e1, e2, e4]
     refine Sim.ret (.inl ⟨⟨rfl, rfl, rfl, ha.pad _, λ j hj => ?_, ⟨fn, fn, e1, e2, rfl, F.res f hf ho fn e2⟩⟩, .cons hm ⟨hr, ops, i, rest, k, h⟩ hms, λ e => ⟨hlf (hlow e).1, λ c hc => ?_⟩⟩)
     . simp only [List.mem_cons, List.not_mem_nil, or_false] at hj
       subst hj; exact e5
     . simp only [List.mem_cons] at hc
       rcases hc with rfl | hc
       . exact (hlow e).1
       . exact (hlow e).2 c hc
   | true =>
     obtain ⟨fn, fn', c, c', e1, e2, e3, e4, e5, e6⟩ := F.opq f hf ho
     have hl0 : P.lw m.fn = false := by
       cases hq : P.lw m.fn with
       | false => rfl
       | true => have := (F.low f (hlf hq)).1; rw [ho] at this; cases this
     have hl : l = false := by
       cases l with
       | false => rfl
       | true => have := (hlow rfl).1; rw [hl0] at this; cases this
     simp only [opS, e1, e2, e5, e6]
     refine Sim.ret (.inr ⟨hl, ⟨f, xs, xs', m, m', ms, ms', ho, hf, ha, ?_, ?_, hm, ⟨hr, ops, i, rest, k, h⟩, hms, hl0⟩⟩)
     . have : P.g.funcs[f]? = some fn := e1
       simp only [entF, this, e5]
     . simp only [entF, e2, e6]
theorem sim_resOne {S : FuncId -> Prop} {xs xs' : Array Value} (h : ArR S K R xs xs') (a : ResultVar) : Sim P S K (VA S K) (resOne xs a) R (resOne xs' a) := by
 cases a with
 | tmp t => exact Sim.ret (h.getD t vr_undef)
 | cell s ty =>
   refine Sim.bnd (sim_asAddr (h.getD s vr_undef)) ?_
   intro R1 e1 a a' ha
   exact sim_loadVar ty ha
theorem sim_resS {S : FuncId -> Prop} {xs xs' : Array Value} (h : ArR S K R xs xs') : ∀ l : List ResultVar, Sim P S K (VA S K) (resS l xs) R (resS l xs')
 | [] => Sim.ret (.tuple' ArR.empty)
 | [a] => sim_resOne h a
 | [a, b] => by
   refine Sim.bnd (sim_resOne h a) ?_
   intro R1 e1 x x' hx
   refine Sim.bnd (sim_resOne (h.mono e1.le) b) ?_
   intro R2 e2 y y' hy
   exact Sim.ret (.tuple' ((ArR.one (hx.mono e2.le)).push hy))
 | [a, b, c] => by
   refine Sim.bnd (sim_resOne h a) ?_
   intro R1 e1 x x' hx
   refine Sim.bnd (sim_resOne (h.mono e1.le) b) ?_
   intro R2 e2 y y' hy
   refine Sim.bnd (sim_resOne ((h.mono e1.le).mono e2.le) c) ?_
   intro R3 e3 z z' hz
   exact Sim.ret (.tuple' (((ArR.one ((hx.mono e2.le).mono e3.le)).push (hy.mono e3.le)).push hz))
 | _ :: _ :: _ :: _ :: _ => .inl never_stuck
theorem yielded_rel {S : FuncId -> Prop} (ops : Array Oper) {xs xs' : Array Value} (h : ArR S K R xs xs') : yielded ops xs = yielded ops xs' := by
 funext j
 unfold yielded
 cases hd : (ops[j]?).bind (·.dst) with
 | none => rfl
 | some d =>
   simp only [Option.bind_some]
   cases hx : xs[d]? with
   | none => rw [h.none hx]
   | some v =>
     obtain ⟨v', e, hv⟩ := h.get hx
     rw [e]
     cases hv with
     | junk hh => cases v' <;> first | exact hh.elim | rfl
     | _ => rfl
theorem exitTo_mem {id : Nat} : ∀ {k k' : List Item}, exitTo id k = some k' -> ∀ i ∈ k', i ∈ k
 | [], _, h, _, _ => by simp [exitTo] at h
 | x :: k, k', h, i, hi => by
   have tail : exitTo id k = some k' -> i ∈ x :: k := λ e => by simp [exitTo_mem e i hi]
   cases x <;> simp only [exitTo] at h <;> first | exact tail h | skip
   split at h
   . cases h; simp [hi]
   . exact tail h
theorem sim_stepS (F : Fit2 P fs) (hR : RelOk P K R) {l : Bool} {m m' : Fm} {ms ms' : List Fm} (hm : FmR P fs K R m m') (hms : MsR P fs K R ms ms') (hlow : LowS P l m ms) (hstop : m.ret = true -> ms ≠ []) :
   Sim P (SF fs) K (StA P fs K l) (stepS P.g m ms) R (stepS P.c m' ms') := by
 unfold stepS
 rw [<- hm.ret]
 by_cases hr : m.ret = true
 . simp only [hr, if_true]
   cases hms with
   | nil => exact absurd rfl (hstop hr)
   | cons hc hw hrest =>
     rename_i c c' rest rest'
     obtain ⟨_, ops, i, r, k, hk⟩ := hw
     obtain ⟨fn, fn', e1, e2, e3, e4⟩ := hm.infs
     unfold retS
     have hk' : c'.todo = .inRegion ops (i :: r) :: k := hc.todo.symm.trans hk
     rw [<- hm.fn]
     simp only [hk, hk', e1, e2]
     rw [<- e3]
     refine Sim.bnd (sim_resS hm.tmps fn.results.toList) ?_
     intro R1 x1 v v' hv
     exact Sim.ret (.inl ⟨(hc.mono x1.le).fin hk hv, hrest.mono x1.le, λ e => ⟨(hlow e).2 c (by simp), λ x hx => (hlow e).2 x (by simp [hx])⟩⟩)
 . have hr0 : m.ret = false := by simpa using hr
   simp only [hr0, Bool.false_eq_true, if_false]
   have hr' : m'.ret = false := hm.ret.symm.trans hr0
   unfold runS
   rw [<- hm.todo]
   have ok1 : ∀ {x y : Fm}, FmR P fs K R x y -> x.fn = m.fn -> Sim P (SF fs) K (StA P fs K l) (Pure.pure (x, ms)) R (Pure.pure (y, ms')) := λ h e => Sim.ret (.inl ⟨h, hms, λ z => by rw [e]; exact hlow z⟩)
   have keep : ∀ (l : List Item), (∀ i ∈ l, fitItem P.c (cls P fs m.fn) i = true) -> FmR P fs K R { m with todo := l } { m' with todo := l } := λ l hl => ⟨hm.fn, rfl, hm.ret, hm.tmps, hl, hm.infs⟩
   have hfit := hm.fit
   have hmf := hm.fn
   cases htd : m.todo with
   | nil => exact ok1 ⟨hm.fn, rfl, rfl, hm.tmps, λ i hi => (by simp at hi), hm.infs⟩ rfl
   | cons x k =>
     rw [htd] at hfit
     have hk : ∀ i ∈ k, fitItem P.c (cls P fs m.fn) i = true := λ i hi => hfit i (by simp [hi])
     have hx : fitItem P.c (cls P fs m.fn) x = true := hfit x (by simp)
     have two : ∀ (y z : Item), fitItem P.c (cls P fs m.fn) y = true -> fitItem P.c (cls P fs m.fn) z = true -> ∀ i ∈ y :: z :: k, fitItem P.c (cls P fs m.fn) i = true := λ y z hy hz i hi => by
       simp only [List.mem_cons] at hi
       rcases hi with rfl | rfl | hi
       . exact hy
       . exact hz
       . exact hk i hi
     have one : ∀ (y : Item), fitItem P.c (cls P fs m.fn) y = true -> ∀ i ∈ y :: k, fitItem P.c (cls P fs m.fn) i = true := λ y hy i hi => by
       simp only [List.mem_cons] at hi
       rcases hi with rfl | hi
       . exact hy
       . exact hk i hi
     cases x with
     | code c =>
       cases c with
       | skip => exact ok1 (keep k hk) rfl
       | label l => exact ok1 (keep k hk) rfl
       | ret => exact ok1 ⟨hm.fn, rfl, rfl, hm.tmps, hfit, hm.infs⟩ rfl
       | seq a b =>
         simp only [fitItem, fitCode, Bool.and_eq_true] at hx
         exact ok1 (keep _ (two _ _ hx.1 hx.2)) rfl
       | cond c a b =>
         simp only [fitItem, fitCode, Bool.and_eq_true] at hx
         have hv := hm.eval c (cls_fs P fs m.fn ▸ hx.1.1)
         simp only
         generalize m.eval c = v at hv ⊢
         generalize m'.eval c = v' at hv ⊢
         cases hv with
         | bool t =>
           refine ok1 (keep _ (one _ ?_)) rfl
           cases t
           . exact hx.2
           . exact hx.1.2
         | _ => exact .inl never_stuck
       | block id body => exact ok1 (keep _ (two _ _ hx rfl)) rfl
       | loop body => exact ok1 (keep _ (two _ _ hx hx)) rfl
       | scope body => exact ok1 (keep _ (two _ _ hx hx)) rfl
       | exit id =>
         simp only
         cases he : exitTo id k with
         | none => exact .inl never_stuck
         | some k' => exact ok1 (keep _ λ i hi => hk i (exitTo_mem he i hi)) rfl
       | region id ops draw =>
         simp only
         cases draw with
         | true =>
           simp only [if_true]
           rw [<- hmf]
           refine Sim.bnd (sim_choose _) ?_
           rintro R1 h1 t _ rfl
           rw [F.follows]
           exact Sim.ret (.inl ⟨hmf ▸ (keep (.inRegion ops (Region.schedule (P.c.follows .mixedOrders) ops t) :: k) (one (.inRegion ops (Region.schedule (P.c.follows .mixedOrders) ops t)) hx)).mono h1.le, hms.mono h1.le, hlow⟩)
         | false =>
           simp only [Bool.false_eq_true, if_false]
           exact ok1 (keep _ (one (.inRegion ops (List.range ops.size)) hx)) rfl
       | _ => cases hx
     | inBlock id => exact ok1 (keep k hk) rfl
     | inScope c => exact ok1 (keep k hk) rfl
     | inLoop c => exact ok1 (keep _ (two _ _ hx hx)) rfl
     | inRegion ops l =>
       cases l with
       | nil => exact ok1 (keep k hk) rfl
       | cons i rest =>
         simp only
         rw [<- yielded_rel ops hm.tmps]
         by_cases hw : ((ops[i]?).map (Region.wanted . (yielded ops m.tmps))).getD false = true
         . rw [if_pos hw, if_pos hw]
           cases ho : ops[i]? with
           | none => exact .inl never_stuck
           | some o =>
             simp only
             have hok : okOp P.c (cls P fs m.fn) o.op = true := by
               have hx' := Array.all_eq_true.1 hx i (Array.getElem?_eq_some_iff.1 ho).1
               rwa [(Array.getElem?_eq_some_iff.1 ho).2] at hx'
             refine Sim.bnd (sim_execOp F.toFit hR hm.eval (λ g => rfl) (λ g => rfl) (cls_fs P fs m.fn) (cls_gs F.toFit m.fn) (cls_dy F.toFit m.fn) hok) ?_
             intro R1 h1 n n' hn
             exact sim_opS F (hm.mono h1.le) (hms.mono h1.le) hlow hr0 htd hn
         . rw [if_neg hw, if_neg hw]
           exact ok1 (hm.fin htd vr_undef) rfl
     | _ => cases hx
end
end Go.Tt
namespace Go.Tt
open Go.Conc (G solo)
def nilD : Deferred := { target := .nil, args := #[] }
def pz : Frame := { (default : Frame) with mode := .panicking [], defers := [nilD], kind := .normal }
section
variable {P : Pair} {fs : FuncId -> Bool} {K R : Pr} {G' : Nat} {St : Nat -> Prop}
theorem bad_of_stuck (F : Fit2 P fs) (hG : G' = P.globals.size) {w W : World} (hw : WRel (SF fs) K R G' St w W) (ht : Tp w W) {m m' : Fm} {ms ms' : List Fm} (hm : FmR P fs K R m m') (hms : MsR P fs K R ms ms') (hstop : m.ret = true -> ms ≠ [])
   (hno : ∀ x w', (stepS P.g m ms).run P.g w ≠ .ok x w') (base : List Frame) :
   (∃ o w1 es, stepG P.g true (G m.fr (ms.map Fm.fr ++ base)) w = .ended o w1 es) \/
   ∃ x w1 es, stepG P.g true (G m.fr (ms.map Fm.fr ++ base)) w = .go (G x (ms.map Fm.fr ++ base)) w1 es /\ (∃ c, x.mode = .panicking c) /\ x.defers = [] := by
 have hR : RelOk P K R := ⟨hw.inj, hw.inj', λ a b h => hG ▸ (hw.low a b h).1⟩
 unfold stepS at hno
 by_cases hr : m.ret = true
 . simp only [hr, if_true] at hno
   cases hms with
   | nil => exact absurd rfl (hstop hr)
   | cons hc hwt hrest =>
     rename_i c c' rest rest'
     obtain ⟨_, ops, i, r, k, hk⟩ := hwt
     obtain ⟨fn, fn', e1, e2, e3, e4⟩ := hm.infs
     have he : results fn m.tmps = resS fn.results.toList m.tmps := results_resS e4
     cases hx : (resS fn.results.toList m.tmps).run P.g w with
     | ok v w1 => exact absurd (retS_mk (rest := rest) hk e1 hx).1 (hno _ _)
     | halt y w1 =>
       refine .inl ?_
       rw [Fm.fr_ret hr]
       cases y <;> exact ⟨_, _, _, by simp only [G, stepG, unwind, e1, he, Sem.runT_eq, hx, GStep.after]; rfl⟩
 . have hr0 : m.ret = false := by simpa using hr
   simp only [hr0, Bool.false_eq_true, if_false] at hno
   have hev : m.fr.eval = m.eval := m.eval_fr
   have hfit := hm.fit
   have hmt := hm.tmps
   have hme := hm.eval
   obtain ⟨fn, tmps, todo, ret⟩ := m
   simp only at hr0 hfit hmt
   subst hr0
   unfold runS at hno
   simp only at hno
   cases todo with
   | nil => exact absurd rfl (hno _ _)
   | cons x k =>
     have hx : fitItem P.c (cls P fs fn) x = true := hfit x (by simp)
     cases x with
     | code c =>
       cases c with
       | skip => exact absurd rfl (hno _ _)
       | label l => exact absurd rfl (hno _ _)
       | ret => exact absurd rfl (hno _ _)
       | seq a b => exact absurd rfl (hno _ _)
       | block id body => exact absurd rfl (hno _ _)
       | loop body => exact absurd rfl (hno _ _)
       | scope body => exact absurd rfl (hno _ _)
       | cond c a b =>
         have hc := congrFun hev c
         simp only at hno
         cases hv : Fm.eval { fn := fn, tmps := tmps, todo := Item.code (Code.cond c a b) :: k, ret := false } c with
         | bool t => rw [hv] at hno; exact absurd rfl (hno _ _)
         | _ =>
           left
           rw [hv] at hc
           simp only [Fm.fr, Bool.false_eq_true, if_false] at hc ⊢
           simp only [G, stepG, stepG.exec, hc]
           exact ⟨_, _, _, rfl⟩
       | exit id =>
         simp only at hno
         cases he : exitTo id k with
         | some k' => rw [he] at hno; exact absurd rfl (hno _ _)
         | none =>
           left
           simp only [Fm.fr, Bool.false_eq_true, if_false]
           simp [G, stepG, stepG.exec, he]
       | region id ops draw =>
         simp only at hno
         cases draw with
         | true => exact absurd (by simp [choose, Sem.run, Question.forced, Question.cut, bind, Sem.bind, pure]; exact ⟨rfl, rfl⟩) (hno _ _)
         | false => exact absurd rfl (hno _ _)
       | _ => cases hx
     | inBlock id => exact absurd rfl (hno _ _)
     | inScope c => exact absurd rfl (hno _ _)
     | inLoop c => exact absurd rfl (hno _ _)
     | inRegion ops l =>
       cases l with
       | nil => exact absurd rfl (hno _ _)
       | cons i rest =>
         simp only at hno
         cases ho : ops[i]? with
         | none => rw [ho] at hno; exact absurd rfl (hno _ _)
         | some o =>
           rw [ho] at hno
           simp only [Option.map_some, Option.getD_some] at hno
           by_cases hw' : Region.wanted o (yielded ops tmps) = true
           . rw [if_pos hw'] at hno
             have hok : okOp P.c (cls P fs fn) o.op = true := by
               have hx' := Array.all_eq_true.1 hx i (Array.getElem?_eq_some_iff.1 ho).1
               rwa [(Array.getElem?_eq_some_iff.1 ho).2] at hx'
             have hsim := sim_execOp F.toFit hR hme (λ g => rfl) (λ g => rfl) (cls_fs P fs fn) (cls_gs F.toFit fn) (cls_dy F.toFit fn) hok
             have hrb : ∀ x w', ((execOp (Fm.eval { fn := fn, tmps := tmps, todo := Item.inRegion ops (i :: rest) :: k, ret := false }) o).bind (opS P.g { fn := fn, tmps := tmps, todo := Item.inRegion ops (i :: rest) :: k, ret := false } ms ops i rest k)).run P.g w ≠ .ok x w' := hno
             rcases Sim.tame hG _ hsim hw ht with ⟨n, w1, hn⟩ | ⟨h, w1, hn, hth⟩
             . exfalso
               obtain ⟨R1, n', W1, ev, e1, e2, e3, e4, e5⟩ := Sim.run hG _ hsim hw ht hn
               have := λ x w' => hrb x w'
               simp only [Sem.run_bind', hn, Result.andThen] at this
               cases e2 with
               | value hv => exact this _ _ rfl
               | skip => exact this _ _ rfl
               | enter hT ha =>
                 rename_i f xs xs'
                 have hf : P.gs f = true := cls_gs F.toFit fn f hT
                 cases ho2 : P.op f with
                 | false =>
                   obtain ⟨fn', c, q1, q2, q3, q4, q5⟩ := F.fn f hf ho2
                   simp only [opS, q1, q4] at this
                   exact this _ _ rfl
                 | true =>
                   obtain ⟨fn1, fn2, c1, c2, q1, q2, q3, q4, q5, q6⟩ := F.opq f hf ho2
                   simp only [opS, q1, q5] at this
                   exact this _ _ rfl
             . have hae : Act.eval ⟨tmps, []⟩ = Fm.eval { fn := fn, tmps := tmps, todo := Item.inRegion ops (i :: rest) :: k, ret := false } := funext λ x => by cases x <;> rfl
               have hop := Conc.stepG_oper (P := P.g) (main := true) (b := Conc.base fn) (a := ⟨tmps, []⟩) (k := k) (cs := List.map Fm.fr ms ++ base) (w := w) (rest := rest) ho hw'
               have hfr : (Fm.fr { fn := fn, tmps := tmps, todo := Item.inRegion ops (i :: rest) :: k, ret := false }) = (Conc.base fn).at ⟨tmps, []⟩ (.inRegion ops (i :: rest) :: k) := rfl
               rw [hfr, hop, hae]
               cases h with
               | panic v =>
                 right
                 simp [stepG.apply, hn, GStep.after, G, Frame.raise, Frame.at]
               | stuck s => left; simp [stepG.apply, hn, GStep.after]
               | unsupported u =>
                 left
                 cases u <;> first | exact hth.elim | simp [stepG.apply, hn, GStep.after]
               | _ => exact hth.elim
           . rw [if_neg hw'] at hno
             exact absurd rfl (hno _ _)
     | _ => cases hx
theorem step_solo_ended {p : Program} {a : Goroutine} {w w' : World} {o : Outcome} {es : Array Event} (hs : a.status = .running) (h : stepG p true a w = .ended o w' es) : step p (solo a w) = .ended o w' := by
 rw [step, Conc.stepT_solo hs, Conc.solo_eq_crowd, Conc.runT_many_ended (i := 0) rfl h]
theorem runN_next {p : Program} {m m' : Machine} (h : step p m = .next m') (n : Nat) : runN p (n + 1) m = runN p n m' := by simp [runN, h]
theorem runN_end {p : Program} {m : Machine} {o : Outcome} {w : World} (h : step p m = .ended o w) (n : Nat) : runN p (n + 1) m = .ended o w := by simp [runN, h]
theorem solo_inj {g g' : Goroutine} {w w' : World} (h : solo g w = solo g' w') : g = g' /\ w = w' := by
 injection h with h1 h2
 injection h2 with h2
 injection h2 with h2
 exact ⟨h2, h1⟩
theorem G_inj {fr fr' : Frame} {cs cs' : List Frame} (h : G fr cs = G fr' cs') : fr = fr' /\ cs = cs' := by
 injection h with h1 h2
 exact ⟨h1, h2⟩
def Panics (x : Frame) : Prop := ∃ c, x.mode = .panicking c
theorem raise_panics (x : Frame) (vs : List PanicEntry) : Panics (x.raise vs) /\ (x.raise vs).defers = x.defers := by
 unfold Frame.raise
 split
 . exact ⟨⟨_, rfl⟩, rfl⟩
 . exact ⟨⟨_, rfl⟩, rfl⟩
theorem pz_ends {p : Program} {x : Frame} {ds : List Deferred} (hd : x.defers = nilD :: ds) (hm : Panics x) (cs : List Frame) (w : World) : ∃ o w1 es, stepG p true (G x cs) w = .ended o w1 es := by
 obtain ⟨c, hc⟩ := hm
 refine ⟨.unsupported (.noEntry "machine/Return: a deferred call of a nil function value, made while the frame is unwinding") ({ x with defers := ds }.pos p), w, #[], ?_⟩
 simp [G, stepG, hc, unwind, hd, callDeferred, nilD]
theorem bad_never {p : Program} (frT : Frame) (wT : World) (hT : frT.mode = .returning) : ∀ (n : Nat) (x : Frame) (ys : List Frame) (w : World), Panics x -> x.defers = [] -> (∀ y ∈ ys, y.defers = []) -> runN p n (solo (G x (ys ++ [pz])) w) ≠ .next (solo (G frT [pz]) wT) := by
 intro n
 induction n with
 | zero =>
   intro x ys w ⟨c, hc⟩ _ _ e
   simp only [runN, Stepped.next.injEq] at e
   have := (G_inj (solo_inj e).1).1
   rw [this, hT] at hc; cases hc
 | succ n ih =>
   intro x ys w ⟨c, hc⟩ hd hys e
   have hrun : (G x (ys ++ [pz])).status = .running := rfl
   by_cases hcat : x.catches p = true
   . have hst : ∃ o w1 es, stepG p true (G x (ys ++ [pz])) w = .ended o w1 es := by simp [G, stepG, hc, unwind, hd, hcat]
     obtain ⟨o, w1, es, hst⟩ := hst
     have hs := step_solo_ended hrun hst
     simp [runN, hs] at e
   . have hcat' : x.catches p = false := by simpa using hcat
     cases ys with
     | nil =>
       have hst : stepG p true (G x [pz]) w = .go (G (pz.raise c) []) w := by simp [G, stepG, hc, unwind, hd, hcat']
       have hs := Conc.step_solo_go hrun hst
       replace e := (runN_next hs n).symm.trans e
       cases n with
       | zero =>
         simp only [runN, Stepped.next.injEq] at e
         have := (G_inj (solo_inj e).1).2
         cases this
       | succ n =>
         obtain ⟨o, w1, es, hst2⟩ := pz_ends (p := p) (x := pz.raise c) (ds := []) ((raise_panics pz c).2) (raise_panics pz c).1 [] w
         have hs2 := step_solo_ended rfl hst2
         have := (runN_end hs2 n).symm.trans e
         cases this
     | cons y ys =>
       have hst : stepG p true (G x (y :: (ys ++ [pz]))) w = .go (G (y.raise c) (ys ++ [pz])) w := by simp [G, stepG, hc, unwind, hd, hcat']
       have hs := Conc.step_solo_go hrun hst
       replace e := (runN_next hs n).symm.trans e
       exact ih (y.raise c) ys w (raise_panics y c).1 ((raise_panics y c).2.trans (hys y (by simp))) (λ z hz => hys z (by simp [hz])) e
theorem left_never {p : Program} (frT : Frame) (wT : World) {m : Fm} (hr : m.ret = true) {w : World} (n : Nat) : runN p (n + 1) (solo (G m.fr [pz]) w) ≠ .next (solo (G frT [pz]) wT) := by
 intro e
 have hrun : (G m.fr [pz]).status = .running := rfl
 have key : (∃ o w1 es, stepG p true (G m.fr [pz]) w = .ended o w1 es) \/ ∃ v w1 es, stepG p true (G m.fr [pz]) w = .go (G (pz.finish v) []) w1 es := by
   rw [Fm.fr_ret hr]
   cases hf : p.funcs[m.fn]? with
   | none => right; simp [G, stepG, unwind, doReturn, hf]; exact ⟨_, rfl⟩
   | some fn =>
     cases hx : (results fn m.tmps).run p w with
     | ok v w1 => right; simp [G, stepG, unwind, doReturn, hf, hx, GStep.after]; exact ⟨_, rfl⟩
     | halt h w1 => left; cases h <;> simp [G, stepG, unwind, hf, hx, GStep.after]
 rcases key with ⟨o, w1, es, hst⟩ | ⟨v, w1, es, hst⟩
 . have hs := step_solo_ended hrun hst
   simp [runN, hs] at e
 . have hs := Conc.step_solo_go hrun hst
   simp only [runN, hs] at e
   cases n with
   | zero =>
     simp only [runN, Stepped.next.injEq] at e
     have := (G_inj (solo_inj e).1).2
     cases this
   | succ n =>
     have hpf : pz.finish v = pz := rfl
     rw [hpf] at e
     obtain ⟨o, w2, es, hst2⟩ := pz_ends (p := p) (x := pz) (ds := []) rfl ⟨_, rfl⟩ [] w1
     have hs2 := step_solo_ended rfl hst2
     simp [runN, hs2] at e
end
end Go.Tt
namespace Go.Tt
open Go.Conc (G solo)
inductive Its (p : Program) : Nat -> Fm -> List Fm -> World -> Fm -> World -> Prop
 | stop {m : Fm} {w : World} : m.ret = true -> Its p 0 m [] w m w
 | step {n : Nat} {m m1 mT : Fm} {ms ms1 : List Fm} {w w1 wT : World} : (m.ret = true -> ms ≠ []) -> (stepS p m ms).run p w = .ok (m1, ms1) w1 -> Its p n m1 ms1 w1 mT wT -> Its p (n + 1) m ms w mT wT
structure Fit3 (P : Pair) (fs : FuncId -> Bool) : Prop extends Fit2 P fs where
 none : ∀ f, P.op f = false
section
variable (P : Pair) (fs : FuncId -> Bool) (K : Pr) (G' : Nat) (St : Nat -> Prop)
def RelS (m : Fm) (ms : List Fm) (w : World) : Prop := ∃ R W m' ms', WRel (SF fs) K R G' St w W /\ FmR P fs K R m m' /\ MsR P fs K R ms ms'
variable {P fs K G' St}
theorem WRel.tp {S : FuncId -> Prop} {R : Pr} {w W : World} (h : WRel S K R G' St w W) (T : Tape) (e : Nat) : WRel S K R G' St (tp w T e) (tp W T e) :=
 ⟨h.inj, h.inj', h.lt, h.low, h.gle, h.cont, h.rest, h.st, h.np⟩
theorem WRel.untp {S : FuncId -> Prop} {R : Pr} {w W : World} {T : Tape} {e : Nat} (h : WRel S K R G' St (Tt.tp w T e) W) : WRel S K R G' St w W :=
 ⟨h.inj, h.inj', h.lt, h.low, h.gle, h.cont, h.rest, h.st, h.np⟩
theorem Tp.tp (w W : World) (T : Tape) (e : Nat) : Tp (tp w T e) (tp W T e) := λ _ _ => rfl
theorem WRel.relOk {S : FuncId -> Prop} {R : Pr} {w W : World} (hG : G' = P.globals.size) (h : WRel S K R G' St w W) : RelOk P K R := ⟨h.inj, h.inj', λ a b x => hG ▸ (h.low a b x).1⟩
theorem RelS.next (F : Fit3 P fs) (hG : G' = P.globals.size) {m m1 : Fm} {ms ms1 : List Fm} {w w1 : World} {T : Tape} {e : Nat} (h : RelS P fs K G' St m ms w) (hs : m.ret = true -> ms ≠ [])
   (hr : (stepS P.g m ms).run P.g (tp w T e) = .ok (m1, ms1) w1) : RelS P fs K G' St m1 ms1 w1 := by
 obtain ⟨R, W, m', ms', hw, hm, hms⟩ := h
 obtain ⟨R1, x', W1, ev, e1, e2, e3, e4, e5⟩ := Sim.run hG _ (sim_stepS (l := false) F.toFit2 (hw.relOk hG) hm hms (λ e => by cases e) hs) (hw.tp T e) (Tp.tp w W T e) hr
 rcases e2 with e2 | ⟨_, ⟨f, _, _, _, _, _, _, ho, _⟩⟩
 . exact ⟨R1, W1, x'.1, x'.2, e3.rel, e2.1, e2.2.1⟩
 . rw [F.none] at ho; cases ho
theorem RelS.locl (F : Fit3 P fs) (hG : G' = P.globals.size) {m : Fm} {ms : List Fm} {w : World} (h : RelS P fs K G' St m ms w) (hs : m.ret = true -> ms ≠ []) (T : Tape) (e : Nat) : Local P.g (stepS P.g m ms) (tp w T e) := by
 obtain ⟨R, W, m', ms', hw, hm, hms⟩ := h
 exact Sim.locl hG _ (sim_stepS (l := false) F.toFit2 (hw.relOk hG) hm hms (λ e => by cases e) hs) (hw.tp T e) (Tp.tp w W T e)
theorem tp_self {w : World} {T : Tape} (h : w.tape = T) : tp w T w.drawn = w := by subst h; rfl
theorem Its.alike (F : Fit3 P fs) (hG : G' = P.globals.size) : ∀ {n : Nat} {m mT : Fm} {ms : List Fm} {w wT : World} {T1 T2 : Tape} {e1 e2 : Nat}, RelS P fs K G' St m ms w -> Its P.g n m ms (tp w T1 e1) mT wT -> (∀ n q, T2 (e2 + n) q = T1 (e1 + n) q) -> ∃ e3, Its P.g n m ms (tp w T2 e2) mT (tp wT T2 e3) := by
 intro n
 induction n with
 | zero =>
   intro m mT ms w wT T1 T2 e1 e2 hR h ht
   cases h with
   | stop hr => exact ⟨e2, .stop hr⟩
 | succ n ih =>
   intro m mT ms w wT T1 T2 e1 e2 hR h ht
   cases h with
   | step hs hr hn =>
     rename_i m1 ms1 w1
     obtain ⟨h1, h2, h3⟩ := hR.locl F hG hs T1 e1 _ _ hr
     have h4 := h3 T2 e2 (λ k _ q => ht k q)
     have hself : w1 = tp w1 T1 w1.drawn := (tp_self h1).symm
     rw [hself] at hn
     obtain ⟨e3, h5⟩ := ih (T2 := T2) (e2 := e2 + (w1.drawn - e1)) (hR.next F hG hs hr) hn (λ k q => by
       have h2' : e1 <= w1.drawn := h2
       rw [show e2 + (w1.drawn - e1) + k = e2 + ((w1.drawn - e1) + k) by omega, ht, show e1 + ((w1.drawn - e1) + k) = w1.drawn + k by omega])
     exact ⟨e3, .step hs h4 h5⟩
theorem reach (F : Fit3 P fs) (hG : G' = P.globals.size) {frT : Frame} {wT : World} (hT : frT.mode = .returning) : ∀ (n : Nat) {m : Fm} {ms : List Fm} {w : World}, RelS P fs K G' St m ms w ->
   runN P.g n (solo (G m.fr (ms.map Fm.fr ++ [pz])) w) = .next (solo (G frT [pz]) wT) -> ∃ k mT, Its P.g k m ms w mT wT /\ mT.fr = frT := by
 intro n
 induction n with
 | zero =>
   intro m ms w hR h
   simp only [runN, Stepped.next.injEq] at h
   obtain ⟨h1, rfl⟩ := solo_inj h
   obtain ⟨h2, h3⟩ := G_inj h1
   have hms : ms = [] := by
     cases ms with
     | nil => rfl
     | cons a b => have := congrArg List.length h3; simp at this
   subst hms
   have hr : m.ret = true := by
     rw [<- h2] at hT
     cases hm : m.ret with
     | true => rfl
     | false => rw [Fm.fr_run hm] at hT; cases hT
   exact ⟨0, m, .stop hr, h2⟩
 | succ n ih =>
   intro m ms w hR h
   by_cases hstop : m.ret = true /\ ms = []
   . obtain ⟨hr, rfl⟩ := hstop
     exact absurd h (left_never frT wT hr n)
   . have hs : m.ret = true -> ms ≠ [] := λ a b => hstop ⟨a, b⟩
     have hself : tp w w.tape w.drawn = w := rfl
     by_cases hok : ∃ x w1, (stepS P.g m ms).run P.g w = .ok x w1
     . obtain ⟨⟨m1, ms1⟩, w1, hr⟩ := hok
       have hst := stepG_stepS (main := true) hr [pz]
       have hstep := Conc.step_solo_go rfl hst
       obtain ⟨k, mT, h1, h2⟩ := ih (RelS.next (T := w.tape) (e := w.drawn) F hG hR hs hr) ((runN_next hstep n).symm.trans h)
       exact ⟨k + 1, mT, .step hs hr h1, h2⟩
     . exfalso
       obtain ⟨R, W, m', ms', hw, hm, hms⟩ := hR
       rcases bad_of_stuck F.toFit2 hG (hw.tp w.tape w.drawn) (Tp.tp w W w.tape w.drawn) hm hms hs (λ x w' e => hok ⟨x, w', e⟩) [pz] with ⟨o, w1, es, hst⟩ | ⟨x, w1, es, hst, hp, hd⟩
       . have hstep := step_solo_ended rfl hst
         have := (runN_end hstep n).symm.trans h
         cases this
       . have hstep := Conc.step_solo_go rfl hst
         exact bad_never frT wT hT n x (ms.map Fm.fr) w1 hp hd (λ y hy => by obtain ⟨z, _, rfl⟩ := List.mem_map.1 hy; rfl) ((runN_next hstep n).symm.trans h)
inductive LT (p : Program) (Q : Fm -> World -> Prop) : Fm -> List Fm -> World -> Prop
 | stop {m : Fm} {w : World} : m.ret = true -> Q m w -> LT p Q m [] w
 | step {m : Fm} {ms : List Fm} {w : World} (nx : Tape -> (Fm × List Fm) × World) : (m.ret = true -> ms ≠ []) -> (∀ T, (stepS p m ms).run p (tp w T 0) = .ok (nx T).1 (nx T).2) -> (∀ T, LT p Q (nx T).1.1 (nx T).1.2 (nx T).2) -> LT p Q m ms w
def Hyp (P : Pair) (fs : FuncId -> Bool) (K : Pr) (G' : Nat) (St : Nat -> Prop) (Q : Fm -> World -> Prop) (s : Fm × List Fm × World) : Prop :=
 RelS P fs K G' St s.1 s.2.1 s.2.2 /\ ∀ T, ∃ n mT wT, Its P.g n s.1 s.2.1 (tp s.2.2 T 0) mT wT /\ Q mT wT
theorem bar (F : Fit3 P fs) (hG : G' = P.globals.size) {Q : Fm -> World -> Prop} (hQ : ∀ m w T e, Q m w -> Q m (tp w T e)) {m : Fm} {ms : List Fm} {w : World} (h : Hyp P fs K G' St Q (m, ms, w)) : LT P.g Q m ms w := by
 refine Classical.byContradiction λ hno => ?_
 let Bad : Fm × List Fm × World -> Prop := λ s => Hyp P fs K G' St Q s /\ ¬ LT P.g Q s.1 s.2.1 s.2.2
 have notstop : ∀ s, Bad s -> s.1.ret = true -> s.2.1 ≠ [] := by
   rintro ⟨m, ms, w⟩ ⟨⟨hR, hI⟩, hn⟩ hr e
   simp only at hr e hn hI
   subst e
   obtain ⟨n, mT, wT, hits, hq⟩ := hI w.tape
   cases hits with
   | stop _ => exact hn (.stop hr (show Q m (tp (tp w w.tape 0) w.tape w.drawn) from hQ _ _ w.tape w.drawn hq))
   | step hs _ _ => exact hs hr rfl
 have next : ∀ s, Bad s -> ∃ (T : Tape) (s1 : Fm × List Fm × World), (stepS P.g s.1 s.2.1).run P.g (tp s.2.2 T 0) = .ok (s1.1, s1.2.1) s1.2.2 /\ Bad s1 := by
   rintro ⟨m, ms, w⟩ hb
   have hs := notstop _ hb
   obtain ⟨⟨hR, hI⟩, hn⟩ := hb
   simp only at hs hI hn hR ⊢
   have hok : ∀ T, ∃ x w1, (stepS P.g m ms).run P.g (tp w T 0) = .ok x w1 := λ T => by
     obtain ⟨n, mT, wT, hits, _⟩ := hI T
     cases hits with
     | stop hr => exact absurd rfl (hs hr)
     | step _ hr _ => exact ⟨_, _, hr⟩
   refine Classical.byContradiction λ hno2 => hn ?_
   let x := λ T => (hok T).choose
   let w1 := λ T => (hok T).choose_spec.choose
   have hx : ∀ T, (stepS P.g m ms).run P.g (tp w T 0) = .ok (x T) (w1 T) := λ T => (hok T).choose_spec.choose_spec
   refine .step (λ T => (x T, w1 T)) hs hx λ T => Classical.byContradiction λ hlt => hno2 ⟨T, ((x T).1, (x T).2, w1 T), hx T, ⟨?_, ?_⟩, hlt⟩
   . exact hR.next F hG hs (hx T)
   . intro T'
     obtain ⟨h1, h2, h3⟩ := hR.locl F hG hs T 0 _ _ (hx T)
     let T2 : Tape := λ n q => if n < (w1 T).drawn then T n q else T' (n - (w1 T).drawn) q
     have h4 := h3 T2 0 (λ n hn q => by
       have hn' : n < (w1 T).drawn := by simpa [tp] using hn
       show (if 0 + n < (w1 T).drawn then T (0 + n) q else _) = _
       rw [if_pos (by omega)]; rfl)
     obtain ⟨n, mT, wT, hits, hq⟩ := hI T2
     cases hits with
     | stop hr => exact absurd rfl (hs hr)
     | step hs' hr hn' =>
       rename_i n' m1 ms1 w2
       have h4' : (stepS P.g m ms).run P.g (tp w T2 0) = .ok (x T) (tp (w1 T) T2 (0 + ((w1 T).drawn - (tp w T 0).drawn))) := h4
       rw [h4'] at hr
       injection hr with e1 e2
       have hx1 : m1 = (x T).1 := by rw [e1]
       have hx2 : ms1 = (x T).2 := by rw [e1]
       subst hx1 hx2
       rw [<- e2] at hn'
       have hd : 0 + ((w1 T).drawn - (tp w T 0).drawn) = (w1 T).drawn := by show 0 + ((w1 T).drawn - 0) = _; omega
       rw [hd] at hn'
       obtain ⟨e3, h5⟩ := Its.alike (T2 := T') (e2 := 0) F hG (hR.next F hG hs (hx T)) hn' (λ k q => by
         show _ = (if (w1 T).drawn + k < (w1 T).drawn then _ else T' ((w1 T).drawn + k - (w1 T).drawn) q)
         rw [if_neg (by omega)]
         congr 1; omega)
       exact ⟨n', mT, _, h5, hQ _ _ _ _ hq⟩
 have hstart : Bad (m, ms, w) := ⟨h, hno⟩
 let nT := λ s (hb : Bad s) => (next s hb).choose
 let nS := λ s (hb : Bad s) => (next s hb).choose_spec.choose
 have hrun : ∀ s (hb : Bad s), (stepS P.g s.1 s.2.1).run P.g (tp s.2.2 (nT s hb) 0) = .ok ((nS s hb).1, (nS s hb).2.1) (nS s hb).2.2 := λ s hb => (next s hb).choose_spec.choose_spec.1
 have hbad : ∀ s (hb : Bad s), Bad (nS s hb) := λ s hb => (next s hb).choose_spec.choose_spec.2
 let seq : Nat -> { s : Fm × List Fm × World // Bad s } := λ k => Nat.rec ⟨(m, ms, w), hstart⟩ (λ _ s => ⟨nS s.1 s.2, hbad s.1 s.2⟩) k
 let tps : Nat -> Tape := λ k => nT (seq k).1 (seq k).2
 let d : Nat -> Nat := λ k => (seq (k + 1)).1.2.2.drawn
 let D : Nat -> Nat := λ k => Nat.rec 0 (λ k x => x + d k) k
 have hD : ∀ k, D (k + 1) = D k + d k := λ k => rfl
 have hmono : ∀ i j, i <= j -> D i <= D j := λ i j hij => by
   induction hij with
   | refl => exact Nat.le_refl _
   | step _ ih => exact Nat.le_trans ih (by rw [hD]; omega)
 classical
 let TS : Tape := λ N q => if hh : ∃ k, D k <= N /\ N < D (k + 1) then tps hh.choose (N - D hh.choose) q else 0
 have hTS : ∀ k n q, n < d k -> TS (D k + n) q = tps k n q := by
   intro k n q hn
   have hh : ∃ j, D j <= D k + n /\ D k + n < D (j + 1) := ⟨k, by omega, by rw [hD]; omega⟩
   have hc := hh.choose_spec
   have hk : hh.choose = k := by
     rcases Nat.lt_trichotomy hh.choose k with x | x | x
     . have := hmono (hh.choose + 1) k x; omega
     . exact x
     . have := hmono (k + 1) hh.choose x; rw [hD] at this; omega
   show (if hh : ∃ j, D j <= D k + n /\ D k + n < D (j + 1) then _ else _) = _
   rw [dif_pos hh, hk]
   congr 1; omega
 have hstep : ∀ k, (stepS P.g (seq k).1.1 (seq k).1.2.1).run P.g (tp (seq k).1.2.2 TS (D k)) = .ok ((seq (k + 1)).1.1, (seq (k + 1)).1.2.1) (tp (seq (k + 1)).1.2.2 TS (D (k + 1))) := by
   intro k
   have hb := (seq k).2
   have hs := notstop _ hb
   have hr := hrun (seq k).1 (seq k).2
   obtain ⟨h1, h2, h3⟩ := hb.1.1.locl F hG hs (tps k) 0 _ _ hr
   have h4 := h3 TS (D k) (λ n hn q => by
     have hn' : n < d k := by have : n < (nS (seq k).1 (seq k).2).2.2.drawn - 0 := hn; simpa using this
     rw [hTS k n q hn']
     show _ = tps k (0 + n) q
     rw [Nat.zero_add])
   have e1 : D k + ((nS (seq k).1 (seq k).2).2.2.drawn - (tp (seq k).1.2.2 (tps k) 0).drawn) = D (k + 1) := by rw [hD]; show D k + ((seq (k + 1)).1.2.2.drawn - 0) = _; rfl
   rw [e1] at h4
   exact h4
 obtain ⟨n, mT, wT, hits, _⟩ := h.2 TS
 have key : ∀ (n k : Nat) (mT : Fm) (wT : World), Its P.g n (seq k).1.1 (seq k).1.2.1 (tp (seq k).1.2.2 TS (D k)) mT wT -> False := by
   intro n
   induction n with
   | zero =>
     intro k mT wT hi
     have hs := notstop _ (seq k).2
     generalize hms : (seq k).1.2.1 = ms0 at hi hs
     cases hi with
     | stop hr => exact hs hr rfl
   | succ n ih =>
     intro k mT wT hi
     have hst := hstep k
     generalize hms : (seq k).1.2.1 = ms0 at hi hst
     generalize hmm : (seq k).1.1 = m0 at hi hst
     generalize hww : tp (seq k).1.2.2 TS (D k) = w0 at hi hst
     cases hi with
     | step hs' hr hn =>
       rename_i m1 ms1 w1
       rw [hst] at hr
       injection hr with e1 e2
       injection e1 with e1 e3
       subst e1 e2 e3
       exact ih (k + 1) mT wT hn
 exact key n 0 mT wT hits
end
end Go.Tt
namespace Go.Tt
inductive LTs (p : Program) (N : Fm -> Prop) (Stop : Fm -> List Fm -> World -> Prop) : Fm -> List Fm -> World -> Prop
 | stop {m : Fm} {ms : List Fm} {w : World} : Stop m ms w -> LTs p N Stop m ms w
 | step {m : Fm} {ms : List Fm} {w : World} (nx : Tape -> (Fm × List Fm) × World) : (m.ret = true -> ms ≠ []) -> (∀ T, (stepS p m ms).run p (tp w T 0) = .ok (nx T).1 (nx T).2) -> (∀ T, N (nx T).1.1) -> (∀ T, LTs p N Stop (nx T).1.1 (nx T).1.2 (nx T).2) -> LTs p N Stop m ms w
def Fm.app (m : Fm) (k : List Item) : Fm := { m with todo := m.todo ++ k }
theorem Fm.app_nil (m : Fm) : m.app [] = m := by unfold Fm.app; simp
theorem exitTo_app {id : Nat} : ∀ {l l' : List Item} (k : List Item), exitTo id l = some l' -> exitTo id (l ++ k) = some (l' ++ k)
 | [], _, _, h => by simp [exitTo] at h
 | x :: l, l', k, h => by
   have tail : exitTo id l = some l' -> exitTo id (l ++ k) = some (l' ++ k) := exitTo_app k
   cases x <;> simp only [exitTo, List.cons_append] at h ⊢ <;> first | exact tail h | skip
   split at h
   . next e => simp only [Option.some.injEq] at h; subst h; rw [if_pos e]
   . next e => rw [if_neg e]; exact tail h
section
variable {p : Program}
theorem Fm.fin_app (m : Fm) (ops : Array Oper) (i : Nat) (rest : List Nat) (k0 k : List Item) (v : Value) : (m.app k).fin ops i rest (k0 ++ k) v = (m.fin ops i rest k0 v).app k := by
 unfold Fm.fin Fm.app
 simp
theorem runS_app {m x : Fm} {ms ys ms' : List Fm} {w w1 : World} (k : List Item) (hne : m.todo ≠ []) (h : (runS p m ms).run p w = .ok (x, ys) w1) :
   (ys = ms /\ (runS p (m.app k) ms').run p w = .ok (x.app k, ms') w1) \/ (ys = m :: ms /\ (runS p (m.app k) ms').run p w = .ok (x, m.app k :: ms') w1) := by
 obtain ⟨fn, tmps, todo, ret⟩ := m
 simp only at hne
 unfold runS at h ⊢
 simp only [Fm.app] at h ⊢
 cases todo with
 | nil => exact absurd rfl hne
 | cons it k0 =>
   simp only [List.cons_append] at h ⊢
   cases it with
   | code c =>
     cases c with
     | cond c a b =>
       simp only at h ⊢
       have he : Fm.eval { fn := fn, tmps := tmps, todo := Item.code (Code.cond c a b) :: (k0 ++ k), ret := ret } c = Fm.eval { fn := fn, tmps := tmps, todo := Item.code (Code.cond c a b) :: k0, ret := ret } c := by cases c <;> rfl
       rw [he]
       cases hv : Fm.eval { fn := fn, tmps := tmps, todo := Item.code (Code.cond c a b) :: k0, ret := ret } c with
       | bool t =>
         rw [hv] at h
         simp only [Pure.pure, Sem.run, Result.ok.injEq, Prod.mk.injEq] at h
         obtain ⟨⟨rfl, rfl⟩, rfl⟩ := h
         exact .inl ⟨rfl, rfl⟩
       | _ => rw [hv] at h; simp [stuck, Sem.run] at h
     | exit id =>
       simp only at h ⊢
       cases he : exitTo id k0 with
       | some k' =>
         rw [he] at h
         rw [exitTo_app k he]
         simp only [Pure.pure, Sem.run, Result.ok.injEq, Prod.mk.injEq] at h
         obtain ⟨⟨rfl, rfl⟩, rfl⟩ := h
         exact .inl ⟨rfl, rfl⟩
       | none => rw [he] at h; simp [stuck, Sem.run] at h
     | region id ops draw =>
       cases draw with
       | true =>
         simp only [if_true] at h ⊢
         have h2 := (Sem.run_bind' p (choose (.order fn id)) _ w).symm.trans h
         have h3 := λ (f : Nat -> Sem (Fm × List Fm)) => Sem.run_bind' p (choose (.order fn id)) f w
         cases hc : (choose (.order fn id)).run p w with
         | ok t w2 =>
           rw [hc] at h2 h3
           simp only [Result.andThen] at h2 h3
           simp only [Pure.pure, Sem.run, Result.ok.injEq, Prod.mk.injEq] at h2
           obtain ⟨⟨rfl, rfl⟩, rfl⟩ := h2
           exact .inl ⟨rfl, h3 _⟩
         | halt y w2 => rw [hc] at h2; cases h2
       | false =>
         simp only [Bool.false_eq_true, if_false, Pure.pure, Sem.run, Result.ok.injEq, Prod.mk.injEq] at h
         obtain ⟨⟨rfl, rfl⟩, rfl⟩ := h
         exact .inl ⟨rfl, rfl⟩
     | _ =>
       first
         | (simp [stuck, Sem.run] at h; done)
         | (simp only [Pure.pure, Sem.run, Result.ok.injEq, Prod.mk.injEq] at h
            obtain ⟨⟨rfl, rfl⟩, rfl⟩ := h
            exact .inl ⟨rfl, rfl⟩)
   | inRegion ops l =>
     cases l with
     | nil =>
       simp only [Pure.pure, Sem.run, Result.ok.injEq, Prod.mk.injEq] at h
       obtain ⟨⟨rfl, rfl⟩, rfl⟩ := h
       exact .inl ⟨rfl, rfl⟩
     | cons i rest =>
       simp only at h ⊢
       have hfin : ∀ v, Fm.fin { fn := fn, tmps := tmps, todo := Item.inRegion ops (i :: rest) :: (k0 ++ k), ret := ret } ops i rest (k0 ++ k) v = (Fm.fin { fn := fn, tmps := tmps, todo := Item.inRegion ops (i :: rest) :: k0, ret := ret } ops i rest k0 v).app k := λ v => Fm.fin_app { fn := fn, tmps := tmps, todo := Item.inRegion ops (i :: rest) :: k0, ret := ret } ops i rest k0 k v
       by_cases hw : ((ops[i]?).map (Region.wanted . (yielded ops tmps))).getD false = true
       . rw [if_pos hw] at h
         simp only [hw, if_true]
         cases ho : ops[i]? with
         | none => rw [ho] at h; simp [stuck, Sem.run] at h
         | some o =>
           rw [ho] at h
           simp only at h ⊢
           have hev : Fm.eval { fn := fn, tmps := tmps, todo := Item.inRegion ops (i :: rest) :: (k0 ++ k), ret := ret } = Fm.eval { fn := fn, tmps := tmps, todo := Item.inRegion ops (i :: rest) :: k0, ret := ret } := by funext y; cases y <;> rfl
           rw [hev]
           have h2 := (Sem.run_bind' p _ _ w).symm.trans h
           have h3 := λ (f : Next -> Sem (Fm × List Fm)) => Sem.run_bind' p (execOp (Fm.eval { fn := fn, tmps := tmps, todo := Item.inRegion ops (i :: rest) :: k0, ret := ret }) o) f w
           cases hc : (execOp (Fm.eval { fn := fn, tmps := tmps, todo := Item.inRegion ops (i :: rest) :: k0, ret := ret }) o).run p w with
           | halt y w2 => rw [hc] at h2; cases h2
           | ok n w2 =>
             rw [hc] at h2 h3
             simp only [Result.andThen] at h2 h3
             cases n with
             | value v =>
               simp only [opS, Pure.pure, Sem.run, Result.ok.injEq, Prod.mk.injEq] at h2
               obtain ⟨⟨rfl, rfl⟩, rfl⟩ := h2
               refine .inl ⟨rfl, (h3 _).trans ?_⟩
               simp only [opS, Pure.pure, Sem.run, hfin]; rfl
             | skip =>
               simp only [opS, Pure.pure, Sem.run, Result.ok.injEq, Prod.mk.injEq] at h2
               obtain ⟨⟨rfl, rfl⟩, rfl⟩ := h2
               refine .inl ⟨rfl, (h3 _).trans ?_⟩
               simp only [opS, Pure.pure, Sem.run, hfin]; rfl
             | enter f args =>
               simp only [opS] at h2
               cases hf : p.funcs[f]? with
               | none => rw [hf] at h2; simp [stuck, Sem.run] at h2
               | some fn2 =>
                 cases hb : fn2.body with
                 | none => rw [hf] at h2; simp only [hb] at h2; simp [stuck, Sem.run] at h2
                 | some c =>
                   rw [hf] at h2
                   simp only [hb, Pure.pure, Sem.run, Result.ok.injEq, Prod.mk.injEq] at h2
                   obtain ⟨⟨rfl, rfl⟩, rfl⟩ := h2
                   refine .inr ⟨rfl, (h3 _).trans ?_⟩
                   simp only [opS, hf, hb, Pure.pure, Sem.run]
             | _ => simp [opS, stuck, Sem.run] at h2
       . rw [if_neg hw] at h
         have hw' : ((ops[i]?).map (Region.wanted . (yielded ops tmps))).getD false = false := by simpa using hw
         simp only [hw', Bool.false_eq_true, if_false]
         simp only [Pure.pure, Sem.run, Result.ok.injEq, Prod.mk.injEq] at h
         obtain ⟨⟨rfl, rfl⟩, rfl⟩ := h
         refine .inl ⟨rfl, ?_⟩
         simp only [Pure.pure, Sem.run, hfin]; rfl
   | _ =>
     first
       | (simp [stuck, Sem.run] at h; done)
       | (simp only [Pure.pure, Sem.run, Result.ok.injEq, Prod.mk.injEq] at h
          obtain ⟨⟨rfl, rfl⟩, rfl⟩ := h
          exact .inl ⟨rfl, rfl⟩)
def appS (k : List Item) (b : List Fm) : Fm -> List Fm -> Fm × List Fm
 | m, [] => (m.app k, b)
 | m, c :: cs => (m, (appS k b c cs).1 :: (appS k b c cs).2)
theorem stepS_app {k : List Item} {b : List Fm} {m m1 : Fm} {ms ms1 : List Fm} {w w1 : World} (h : (stepS p m ms).run p w = .ok (m1, ms1) w1) (hne : ms = [] -> m.ret = false -> m.todo ≠ []) :
   (stepS p (appS k b m ms).1 (appS k b m ms).2).run p w = .ok (appS k b m1 ms1) w1 := by
 cases ms with
 | nil =>
   simp only [appS]
   cases hr : m.ret with
   | true => simp [stepS, hr, retS, stuck, Sem.run] at h
   | false =>
     have hr' : (m.app k).ret = false := hr
     simp only [stepS, hr, Bool.false_eq_true, if_false] at h
     simp only [stepS, hr', Bool.false_eq_true, if_false]
     rcases runS_app (ms' := b) k (hne rfl hr) h with ⟨rfl, e⟩ | ⟨rfl, e⟩
     . exact e
     . exact e
 | cons c cs =>
   simp only [appS]
   cases hr : m.ret with
   | true =>
     simp only [stepS, hr, if_true] at h ⊢
     obtain ⟨ops, i, r, k0, v, fn, hc, hf, hv, rfl, rfl⟩ := retS_inv h
     cases ms1 with
     | nil =>
       simp only [appS]
       have hc' : (c.app k).todo = .inRegion ops (i :: r) :: (k0 ++ k) := by simp [Fm.app, hc]
       have := (retS_mk (rest := b) hc' hf hv).1
       rw [Fm.fin_app] at this
       exact this
     | cons d ds => exact (retS_mk hc hf hv).1
   | false =>
     simp only [stepS, hr, Bool.false_eq_true, if_false] at h ⊢
     by_cases htd : m.todo = []
     . simp only [runS, htd, Pure.pure, Sem.run, Result.ok.injEq, Prod.mk.injEq] at h ⊢
       obtain ⟨⟨rfl, rfl⟩, rfl⟩ := h
       exact ⟨rfl, rfl⟩
     . rcases runS_app (ms' := (appS k b c cs).1 :: (appS k b c cs).2) [] htd h with ⟨rfl, e⟩ | ⟨rfl, e⟩
       . simp only [Fm.app_nil] at e
         exact e
       . simp only [Fm.app_nil] at e
         exact e
theorem runS_ret {m x : Fm} {ms ys : List Fm} {w w1 : World} (h : (runS p m ms).run p w = .ok (x, ys) w1) (hx : x.ret = true) (hr : m.ret = false) (hne : m.todo ≠ []) : x.todo ≠ [] := by
 obtain ⟨fn, tmps, todo, ret⟩ := m
 simp only at hne hr
 subst hr
 unfold runS at h
 simp only at h
 split at h
 all_goals first
   | (simp [stuck, Sem.run] at h; done)
   | (simp only [Pure.pure, Sem.run, Result.ok.injEq, Prod.mk.injEq] at h
      obtain ⟨⟨rfl, rfl⟩, rfl⟩ := h
      first | exact hne | (simp at hx; done) | exact Bool.noConfusion hx)
   | skip
 case h_8 _ c a b k =>
   split at h
   . simp only [Pure.pure, Sem.run, Result.ok.injEq, Prod.mk.injEq] at h
     obtain ⟨⟨rfl, rfl⟩, rfl⟩ := h
     cases hx
   . simp [stuck, Sem.run] at h
 case h_13 _ id k =>
   split at h
   . simp only [Pure.pure, Sem.run, Result.ok.injEq, Prod.mk.injEq] at h
     obtain ⟨⟨rfl, rfl⟩, rfl⟩ := h
     cases hx
   . simp [stuck, Sem.run] at h
 case h_14 _ id ops draw k =>
   cases draw with
   | true =>
     simp only [if_true] at h
     have h2 := (Sem.run_bind' p (choose (.order fn id)) _ w).symm.trans h
     cases hc : (choose (.order fn id)).run p w with
     | ok t w2 =>
       rw [hc] at h2
       simp only [Result.andThen, Pure.pure, Sem.run, Result.ok.injEq, Prod.mk.injEq] at h2
       obtain ⟨⟨rfl, rfl⟩, rfl⟩ := h2
       cases hx
     | halt y w2 => rw [hc] at h2; cases h2
   | false =>
     simp only [Bool.false_eq_true, if_false, Pure.pure, Sem.run, Result.ok.injEq, Prod.mk.injEq] at h
     obtain ⟨⟨rfl, rfl⟩, rfl⟩ := h
     cases hx
 case h_16 _ ops i rest k =>
   split at h
   . split at h
     . next o ho =>
       have h2 := (Sem.run_bind' p _ _ w).symm.trans h
       cases hc : (execOp (Fm.eval { fn := fn, tmps := tmps, todo := Item.inRegion ops (i :: rest) :: k, ret := false }) o).run p w with
       | halt y w2 => rw [hc] at h2; cases h2
       | ok n w2 =>
         rw [hc] at h2
         simp only [Result.andThen] at h2
         cases n with
         | value v =>
           simp only [opS, Pure.pure, Sem.run, Result.ok.injEq, Prod.mk.injEq] at h2
           obtain ⟨⟨rfl, rfl⟩, rfl⟩ := h2
           cases hx
         | skip =>
           simp only [opS, Pure.pure, Sem.run, Result.ok.injEq, Prod.mk.injEq] at h2
           obtain ⟨⟨rfl, rfl⟩, rfl⟩ := h2
           cases hx
         | enter f args =>
           simp only [opS] at h2
           split at h2
           . split at h2
             . simp only [Pure.pure, Sem.run, Result.ok.injEq, Prod.mk.injEq] at h2
               obtain ⟨⟨rfl, rfl⟩, rfl⟩ := h2
               cases hx
             . simp [stuck, Sem.run] at h2
           . simp [stuck, Sem.run] at h2
         | _ => simp [opS, stuck, Sem.run] at h2
     . simp [stuck, Sem.run] at h
   . simp only [Pure.pure, Sem.run, Result.ok.injEq, Prod.mk.injEq] at h
     obtain ⟨⟨rfl, rfl⟩, rfl⟩ := h
     cases hx
theorem runS_fn {m x : Fm} {ms ys : List Fm} {w w1 : World} (h : (runS p m ms).run p w = .ok (x, ys) w1) : (ys = ms /\ x.fn = m.fn) \/ ys = m :: ms := by
 obtain ⟨fn, tmps, todo, ret⟩ := m
 unfold runS at h
 simp only at h
 split at h
 all_goals first
   | (simp [stuck, Sem.run] at h; done)
   | (simp only [Pure.pure, Sem.run, Result.ok.injEq, Prod.mk.injEq] at h
      obtain ⟨⟨rfl, rfl⟩, rfl⟩ := h
      exact .inl ⟨rfl, rfl⟩)
   | skip
 case h_8 _ c a b k =>
   split at h
   . simp only [Pure.pure, Sem.run, Result.ok.injEq, Prod.mk.injEq] at h
     obtain ⟨⟨rfl, rfl⟩, rfl⟩ := h
     exact .inl ⟨rfl, rfl⟩
   . simp [stuck, Sem.run] at h
 case h_13 _ id k =>
   split at h
   . simp only [Pure.pure, Sem.run, Result.ok.injEq, Prod.mk.injEq] at h
     obtain ⟨⟨rfl, rfl⟩, rfl⟩ := h
     exact .inl ⟨rfl, rfl⟩
   . simp [stuck, Sem.run] at h
 case h_14 _ id ops draw k =>
   cases draw with
   | true =>
     simp only [if_true] at h
     have h2 := (Sem.run_bind' p (choose (.order fn id)) _ w).symm.trans h
     cases hc : (choose (.order fn id)).run p w with
     | ok t w2 =>
       rw [hc] at h2
       simp only [Result.andThen, Pure.pure, Sem.run, Result.ok.injEq, Prod.mk.injEq] at h2
       obtain ⟨⟨rfl, rfl⟩, rfl⟩ := h2
       exact .inl ⟨rfl, rfl⟩
     | halt y w2 => rw [hc] at h2; cases h2
   | false =>
     simp only [Bool.false_eq_true, if_false, Pure.pure, Sem.run, Result.ok.injEq, Prod.mk.injEq] at h
     obtain ⟨⟨rfl, rfl⟩, rfl⟩ := h
     exact .inl ⟨rfl, rfl⟩
 case h_16 _ ops i rest k =>
   split at h
   . split at h
     . next o ho =>
       have h2 := (Sem.run_bind' p _ _ w).symm.trans h
       cases hc : (execOp (Fm.eval { fn := fn, tmps := tmps, todo := Item.inRegion ops (i :: rest) :: k, ret := ret }) o).run p w with
       | halt y w2 => rw [hc] at h2; cases h2
       | ok n w2 =>
         rw [hc] at h2
         simp only [Result.andThen] at h2
         cases n with
         | value v =>
           simp only [opS, Pure.pure, Sem.run, Result.ok.injEq, Prod.mk.injEq] at h2
           obtain ⟨⟨rfl, rfl⟩, rfl⟩ := h2
           exact .inl ⟨rfl, rfl⟩
         | skip =>
           simp only [opS, Pure.pure, Sem.run, Result.ok.injEq, Prod.mk.injEq] at h2
           obtain ⟨⟨rfl, rfl⟩, rfl⟩ := h2
           exact .inl ⟨rfl, rfl⟩
         | enter f args =>
           simp only [opS] at h2
           split at h2
           . split at h2
             . simp only [Pure.pure, Sem.run, Result.ok.injEq, Prod.mk.injEq] at h2
               obtain ⟨⟨rfl, rfl⟩, rfl⟩ := h2
               exact .inr rfl
             . simp [stuck, Sem.run] at h2
           . simp [stuck, Sem.run] at h2
         | _ => simp [opS, stuck, Sem.run] at h2
     . simp [stuck, Sem.run] at h
   . simp only [Pure.pure, Sem.run, Result.ok.injEq, Prod.mk.injEq] at h
     obtain ⟨⟨rfl, rfl⟩, rfl⟩ := h
     exact .inl ⟨rfl, rfl⟩
def lastFn : Fm -> List Fm -> FuncId
 | m, [] => m.fn
 | _, c :: cs => lastFn c cs
theorem stepS_lastFn {m m1 : Fm} {ms ms1 : List Fm} {w w1 : World} (h : (stepS p m ms).run p w = .ok (m1, ms1) w1) : lastFn m1 ms1 = lastFn m ms := by
 cases hr : m.ret with
 | true =>
   simp only [stepS, hr, if_true] at h
   cases ms with
   | nil => simp [retS, stuck, Sem.run] at h
   | cons c cs =>
     obtain ⟨ops, i, r, k0, v, fn, hc, hf, hv, rfl, rfl⟩ := retS_inv h
     cases ms1 <;> rfl
 | false =>
   simp only [stepS, hr, Bool.false_eq_true, if_false] at h
   rcases runS_fn h with ⟨rfl, e⟩ | rfl
   . cases ms1 with
     | nil => exact e
     | cons c cs => rfl
   . rfl
theorem LT.ret_inv {Q : Fm -> World -> Prop} {m : Fm} {w : World} (hr : m.ret = true) (h : LT p Q m [] w) : Q m w := by
 generalize hms : ([] : List Fm) = ms at h
 cases h with
 | stop _ hq => exact hq
 | step nx hs hrun _ => subst hms; exact absurd rfl (hs hr)
theorem LT.app {P₁ : Pair} {fs₁ : FuncId -> Bool} {K₁ : Pr} {G₁ : Nat} {St₁ : Nat -> Prop} (F₁ : Fit3 P₁ fs₁) (hG₁ : G₁ = P₁.globals.size) {Q : Fm -> World -> Prop} {N : Fm -> Prop} {Stop : Fm -> List Fm -> World -> Prop} (k : List Item) (b : List Fm) {fn0 : FuncId}
   (hN : ∀ m R y, FmR P₁ fs₁ K₁ R m y -> N m) (hN0 : ∀ m : Fm, m.fn = fn0 -> N m)
   (hn : ∀ (x : Fm) (w : World), x.fn = fn0 -> x.ret = false -> x.todo = [] -> (∀ T, Q { x with ret := true } (tp w T 0)) -> Stop (x.app k) b w)
   (hr : ∀ (x : Fm) (w : World), x.fn = fn0 -> x.ret = true -> x.todo ≠ [] -> Q x w -> Stop (x.app k) b w) {m : Fm} {ms : List Fm} {w : World} (h : LT P₁.g Q m ms w) :
   lastFn m ms = fn0 -> RelS P₁ fs₁ K₁ G₁ St₁ m ms w -> (ms = [] -> m.ret = true -> m.todo ≠ []) -> LTs P₁.g N Stop (appS k b m ms).1 (appS k b m ms).2 w := by
 induction h with
 | stop h1 h2 => intro hl _ hz; exact .stop (hr _ _ hl h1 (hz rfl h1) h2)
 | step nx hs hrun hlt ih =>
   rename_i m ms w
   intro hl hrel hz
   by_cases hend : ms = [] /\ m.ret = false /\ m.todo = []
   . obtain ⟨rfl, h1, h2⟩ := hend
     refine .stop (hn m w hl h1 h2 λ T => ?_)
     have hT := hrun T
     have e : (stepS P₁.g m []).run P₁.g (tp w T 0) = .ok ({ m with ret := true }, []) (tp w T 0) := by simp [stepS, h1, runS, h2, Pure.pure, Sem.run]
     rw [e] at hT
     injection hT with e1 e2
     have hl := hlt T
     rw [<- e1, <- e2] at hl
     exact hl.ret_inv rfl
   . have hne : ms = [] -> m.ret = false -> m.todo ≠ [] := λ a b c => hend ⟨a, b, c⟩
     have hlf : ∀ T, lastFn (nx T).1.1 (nx T).1.2 = fn0 := λ T => (stepS_lastFn (m1 := (nx T).1.1) (ms1 := (nx T).1.2) (hrun T)).trans hl
     have hch : ∀ T, RelS P₁ fs₁ K₁ G₁ St₁ (nx T).1.1 (nx T).1.2 (nx T).2 := λ T => RelS.next (T := T) (e := 0) F₁ hG₁ hrel hs (hrun T)
     refine .step (λ T => (appS k b (nx T).1.1 (nx T).1.2, (nx T).2)) (λ e => ?_) (λ T => stepS_app (hrun T) hne) (λ T => ?_) (λ T => ih T (hlf T) (hch T) λ e1 e2 e3 => ?_)
     . cases ms with
       | nil => exact absurd rfl (hs e)
       | cons c cs => simp [appS]
     . -- the top frame
       show N (appS k b (nx T).1.1 (nx T).1.2).1
       cases hms : (nx T).1.2 with
       | nil => exact hN0 _ (by have := hlf T; rw [hms] at this; exact this)
       | cons c cs =>
         obtain ⟨R, W, m', ms', _, hm, _⟩ := hch T
         exact hN _ R m' hm
     have hT := hrun T
     cases ms with
     | nil =>
       cases hr1 : m.ret with
       | true => exact hs hr1 rfl
       | false =>
         simp only [stepS, hr1, Bool.false_eq_true, if_false] at hT
         exact runS_ret hT e2 hr1 (hne rfl hr1) e3
     | cons c cs =>
       cases hr1 : m.ret with
       | true =>
         simp only [stepS, hr1, if_true] at hT
         obtain ⟨ops, i, r, k0, v, fn, hc, hf, hv, h1, h2⟩ := retS_inv (m1 := (nx T).1.1) (ms1 := (nx T).1.2) hT
         rw [h1] at e3
         simp [Fm.fin] at e3
       | false =>
         simp only [stepS, hr1, Bool.false_eq_true, if_false] at hT
         rcases runS_fn hT with ⟨e, _⟩ | e
         . rw [e1] at e; cases e
         . rw [e1] at e; cases e
end
end Go.Tt
