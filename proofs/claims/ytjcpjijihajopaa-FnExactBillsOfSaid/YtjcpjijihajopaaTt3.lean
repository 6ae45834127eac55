/-
  Greatest and least, texts out of bytes, the nil check, closures.
  One operation, alike on related operands.
  What a run hangs on of the tape: the answers that it draws.
  A goroutine's step as an operation.
  The step runs alike.
-/
import Derived.Test.YtjcpjijihajopaaTt2
import Derived.Conc.Own5
import Derived.Conc.CompanyDraw
set_option linter.unusedSectionVars false
set_option linter.unusedSimpArgs false
set_option linter.unusedVariables false
namespace Go.Tt
set_option linter.unusedVariables false
section
variable {P : Pair} {S : FuncId → Prop} {K : Pr} {R : Pr}
theorem sim_foldlM {f : Value → Value → Sem Value} (hf : ∀ (R : Pr) a a' b b', VR S K R a a' → VR S K R b b' → Sim P S K (VA S K) (f a b) R (f a' b')) :
    ∀ (l l' : List Value) {R : Pr} {x x' : Value}, VR S K R x x' → LsR S K R l l' → Sim P S K (VA S K) (l.foldlM f x) R (l'.foldlM f x')
  | [], [], R, x, x', hx, _ => Sim.ret hx
  | [], _ :: _, _, _, _, _, h => by have := h.1; simp at this
  | _ :: _, [], _, _, _, _, h => by have := h.1; simp at this
  | a :: l, a' :: l', R, x, x', hx, h => by
    obtain ⟨h1, h2⟩ := h.cons
    simp only [List.foldlM_cons]
    refine Sim.bnd (hf R _ _ _ _ hx h1) ?_
    intro R1 e1 v v' hv
    exact sim_foldlM hf l l' hv (h2.mono e1.le)
theorem sim_max2 {a a' b b' : Value} (ha : VR S K R a a') (hb : VR S K R b b') : Sim P S K (VA S K) (Builtin.max2 a b) R (Builtin.max2 a' b') := by
  cases ha with
  | int k n => cases hb with
    | int k' n' => exact Sim.ret (.int _ _)
    | pointer h => cases h <;> first | exact .inl never_unsupported | exact .inl never_stuck
    | _ => exact .inl never_stuck
  | string s => cases hb with
    | string s' =>
      refine Sim.bnd (sim_stringOp .geq s s') ?_
      intro R1 e1 v v' hv
      refine Sim.bnd (sim_asBool hv) ?_
      rintro R2 e2 x _ rfl
      exact Sim.ret (.string _)
    | pointer h => cases h <;> first | exact .inl never_unsupported | exact .inl never_stuck
    | _ => exact .inl never_stuck
  | pointer h => cases h <;> cases hb <;> first | exact .inl never_unsupported | exact .inl never_stuck | (rename_i h2; cases h2 <;> first | exact .inl never_unsupported | exact .inl never_stuck)
  | _ => cases hb <;> first | exact .inl never_unsupported | exact .inl never_stuck | (rename_i h2; cases h2 <;> first | exact .inl never_unsupported | exact .inl never_stuck)
theorem sim_min2 {a a' b b' : Value} (ha : VR S K R a a') (hb : VR S K R b b') : Sim P S K (VA S K) (Builtin.min2 a b) R (Builtin.min2 a' b') := by
  cases ha with
  | int k n => cases hb with
    | int k' n' => exact Sim.ret (.int _ _)
    | pointer h => cases h <;> first | exact .inl never_unsupported | exact .inl never_stuck
    | _ => exact .inl never_stuck
  | string s => cases hb with
    | string s' =>
      refine Sim.bnd (sim_stringOp .leq s s') ?_
      intro R1 e1 v v' hv
      refine Sim.bnd (sim_asBool hv) ?_
      rintro R2 e2 x _ rfl
      exact Sim.ret (.string _)
    | pointer h => cases h <;> first | exact .inl never_unsupported | exact .inl never_stuck
    | _ => exact .inl never_stuck
  | pointer h => cases h <;> cases hb <;> first | exact .inl never_unsupported | exact .inl never_stuck | (rename_i h2; cases h2 <;> first | exact .inl never_unsupported | exact .inl never_stuck)
  | _ => cases hb <;> first | exact .inl never_unsupported | exact .inl never_stuck | (rename_i h2; cases h2 <;> first | exact .inl never_unsupported | exact .inl never_stuck)
theorem sim_max (ts : Array TypeId) (t : TypeId) {xs xs' : Array Value} (h : ArR S K R xs xs') : Sim P S K (VA S K) (Builtin.max_ ts t xs) R (Builtin.max_ ts t xs') := by
  unfold Builtin.max_
  have hl := h.toList
  generalize xs.toList = l at hl ⊢
  generalize xs'.toList = l' at hl ⊢
  cases l <;> cases l'
  · exact .inl never_stuck
  · have := hl.1; simp at this
  · have := hl.1; simp at this
  · exact sim_foldlM (fun R a a' b b' => sim_max2) _ _ hl.cons.1 hl.cons.2
theorem sim_min (ts : Array TypeId) (t : TypeId) {xs xs' : Array Value} (h : ArR S K R xs xs') : Sim P S K (VA S K) (Builtin.min_ ts t xs) R (Builtin.min_ ts t xs') := by
  unfold Builtin.min_
  have hl := h.toList
  generalize xs.toList = l at hl ⊢
  generalize xs'.toList = l' at hl ⊢
  cases l <;> cases l'
  · exact .inl never_stuck
  · have := hl.1; simp at this
  · have := hl.1; simp at this
  · exact sim_foldlM (fun R a a' b b' => sim_min2) _ _ hl.cons.1 hl.cons.2
theorem sim_bytes {f : Value → ByteArray → Sem (ForInStep ByteArray)} (hf : ∀ (R : Pr) c c' s, VR S K R c c' → Sim P S K EqA (f c s) R (f c' s)) : ∀ (l l' : List Value) {R : Pr} (s : ByteArray), LsR S K R l l' →
    Sim P S K EqA (forIn (m := Sem) l s f) R (forIn (m := Sem) l' s f)
  | [], [], R, s, _ => Sim.ret rfl
  | [], _ :: _, _, _, h => by have := h.1; simp at this
  | _ :: _, [], _, _, h => by have := h.1; simp at this
  | a :: l, a' :: l', R, s, h => by
    obtain ⟨h1, h2⟩ := h.cons
    simp only [List.forIn_cons]
    refine Sim.bnd (hf R a a' s h1) ?_
    rintro R1 e1 x _ rfl
    cases x with
    | done b => exact Sim.ret rfl
    | yield b => exact sim_bytes hf l l' b (h2.mono e1.le)
theorem sim_bytesToString {x x' : Value} (h : VR S K R x x') : Sim P S K (VA S K) (Conv.bytesToString x) R (Conv.bytesToString x') := by
  unfold Conv.bytesToString
  cases h with
  | slice ha =>
    cases ha with
    | none => exact Sim.ret (.string _)
    | some ha =>
      refine Sim.bnd (sim_loadCells ha _) ?_
      intro R1 e1 xs xs' hx
      simp only
      rw [← Array.forIn_toList, ← Array.forIn_toList]
      refine Sim.bnd (sim_bytes (fun R c c' s hc => ?_) _ _ _ hx.toList) ?_
      · cases hc with
        | int k n => cases k <;> first | exact Sim.ret rfl | exact .inl (never_stuck.bnd _) | exact .inl never_stuck
        | _ => first | exact .inl (never_stuck.bnd _) | exact .inl never_stuck
      rintro R2 e2 s _ rfl
      exact Sim.ret (.string _)
  | _ => exact .inl never_stuck
def nilChk (v : Value) : Sem Next :=
  match v with
  | .pointer none | .nilIface | .nilFunc => runtimePanic .nilDeref
  | .func (.method name) first captured =>
    match (first[0]? : Option Value) with
    | some .nilIface => runtimePanic .nilDeref
    | some (.iface t w) => do
      if (← nilAhead ((← program).types.size + Made.depth) t w name) != some false then
        unsupported (.noEntry "op/nilCheck.the method's receiver behind this interface value is a nil pointer, or cannot be seen to be none, and the arguments act or may panic (ledger 612)")
      pure (.value (.func (.method name) first captured))
    | _ => pure (.value (.func (.method name) first captured))
  | x => pure (.value x)
theorem sim_nilChk {x x' : Value} (h : VR S K R x x') : Sim P S K (fun R a b => ∃ v v', a = .value v ∧ b = .value v' ∧ VR S K R v v') (nilChk x) R (nilChk x') := by
  unfold nilChk
  have h0 := h
  cases h with
  | pointer h => cases h with
    | none => exact .inl never_runtimePanic
    | some h => exact Sim.ret ⟨_, _, rfl, rfl, h0⟩
  | nilIface => exact .inl never_runtimePanic
  | nilFunc => exact .inl never_runtimePanic
  | junk h => exact .inl never_runtimePanic
  | _ => exact Sim.ret ⟨_, _, rfl, rfl, h0⟩
end
end Go.Tt
namespace Go.Tt
set_option linter.unusedVariables false
def keyOk (p : Program) (t : TypeId) : Bool :=
  match p.underlying t with
  | some (.int _) => (match p.info? t with | some i => (match i.desc with | .named "sync.copyChecker" _ => false | _ => true) | none => true)
  | some d => eqOk d
  | none => false
def okConst : Value → Bool
  | .bool _ | .int _ _ | .string _ | .nilFunc | .nilIface | .pointer none | .slice none _ _ | .map none | .chan none => true
  | _ => false
def mapOk (p : Program) (t : TypeId) : Bool := match p.underlying t with | some (.map k _) => keyOk p k | _ => true
def isIntT (p : Program) (t : TypeId) : Bool := match p.underlying t with | some (.int _) => true | _ => false
def okX (fs : FuncId → Bool) : Operand → Bool
  | .tmp _ => true
  | .const v => okConst v
  | .global _ => false
  | .func f => fs f
/-- What a text may name (fs), call by name (gs), call by value (dy). -/
structure Cl where
  fs : FuncId → Bool
  gs : FuncId → Bool
  dy : Bool
abbrev Cl.T (c : Cl) (f : FuncId) : Prop := c.gs f = true
def isU8S (p : Program) (t : TypeId) : Bool := match p.underlying t with | some (.slice e) => (match p.underlying e with | some (.int .u8) => true | _ => false) | _ => false
def isStrT (p : Program) (t : TypeId) : Bool := match p.underlying t with | some .string => true | _ => false
def notIntT (p : Program) (o : Option TypeId) : Bool := match o with | some t => (match p.underlying t with | some (.int _) => false | _ => true) | none => true
def okCall (c : Cl) : Operand → Bool
  | .func g => c.gs g
  | x => okX c.fs x && c.dy
def okOp (p : Program) (c : Cl) : Op → Bool
  | .move x | .assign x | .nilCheck x => okX c.fs x
  | .pick q a b => okX c.fs q && okX c.fs a && okX c.fs b
  | .alloc _ => true
  | .box _ x => okX c.fs x
  | .build _ ps => ps.all fun x => okX c.fs x.2
  | .buildSlice _ _ ps => ps.all fun x => okX c.fs x.2
  | .load _ a => okX c.fs a
  | .store _ a x => okX c.fs a && okX c.fs x
  | .binOp op t x y _ => okX c.fs x && okX c.fs y && (if op matches .eql | .neq then keyOk p t && !(p.eqGuardType p.depth t) else true)
  | .unOp _ _ x => okX c.fs x
  | .convert s d x => okX c.fs x && ((isIntT p s && isIntT p d) || (isU8S p s && isStrT p d))
  | .makeFunc (.func f) a b => c.fs f && a.all (okX c.fs) && b.all (okX c.fs)
  | .makeMap _ r => (match r with | some x => okX c.fs x | none => true)
  | .makeSlice _ l q => okX c.fs l && okX c.fs q
  | .slice _ x lo hi mx => okX c.fs x && (match lo with | some x => okX c.fs x | none => true) && (match hi with | some x => okX c.fs x | none => true) && (match mx with | some x => okX c.fs x | none => true)
  | .fieldAddr _ x _ | .field _ x _ | .extract x _ => okX c.fs x
  | .indexAddr _ x i | .index _ x i => okX c.fs x && okX c.fs i
  | .lookup t x i _ => okX c.fs x && okX c.fs i && mapOk p t
  | .mapUpdate t m k x => okX c.fs m && okX c.fs k && okX c.fs x && mapOk p t
  | .call { callee := .value f, args, .. } => okCall c f && args.all (okX c.fs)
  | .call { callee := .builtin .len, args, .. } | .call { callee := .builtin .cap, args, .. } | .call { callee := .builtin .max, args, .. } | .call { callee := .builtin .min, args, .. } | .call { callee := .builtin .copy, args, .. } => args.all (okX c.fs)
  | .call { callee := .builtin .append, args, argTypes } => args.all (okX c.fs) && notIntT p argTypes[1]?
  | .call { callee := .builtin .delete, args, argTypes } => args.all (okX c.fs) && (match argTypes[0]? with | some t => mapOk p t | none => true)
  | _ => false
section
variable {P : Pair} {fs : FuncId → Bool} {K R : Pr}
abbrev SF (fs : FuncId → Bool) : FuncId → Prop := fun f => fs f = true
theorem keyOk_ok {t : TypeId} (h : keyOk P.c t = true) : KeyOk P t := by
  unfold keyOk at h
  have hu : ∀ d, P.c.underlying t = some d → P.underlying t = some d := fun d e => e
  split at h
  · next k e =>
    refine ⟨⟨_, e, rfl⟩, fun k' _ i x hi hd => ?_⟩
    have hi' : P.c.info? t = some i := hi
    rw [hi'] at h
    simp only [hd] at h
    cases h
  · next d hne e =>
    exact ⟨⟨d, e, h⟩, fun k hk => absurd (e.symm.trans hk) (by intro e'; injection e' with e'; exact hne k (e' ▸ rfl))⟩
  · cases h
theorem okConst_ok {v : Value} (h : okConst v = true) : VR (SF fs) K R v v := by
  cases v with
  | bool b => exact .bool b
  | int k n => exact .int k n
  | string s => exact .string s
  | nilFunc => exact .nilFunc
  | nilIface => exact .nilIface
  | pointer a => cases a with | none => exact .pointer .none | some a => cases h
  | slice a n c => cases a with | none => exact .slice .none | some a => cases h
  | map a => cases a with | none => exact .map .none | some a => cases h
  | chan a => cases a with | none => exact .chan .none | some a => cases h
  | _ => cases h
inductive NxR (S : FuncId → Prop) (T : FuncId → Prop) (K R : Pr) : Next → Next → Prop
  | value {v v' : Value} : VR S K R v v' → NxR S T K R (.value v) (.value v')
  | skip : NxR S T K R .skip .skip
  | enter {f : FuncId} {xs xs' : Array Value} : T f → ArR S K R xs xs' → NxR S T K R (.enter f xs) (.enter f xs')
abbrev NA (S : FuncId → Prop) (T : FuncId → Prop) (K : Pr) : Pr → Next → Next → Prop := fun R n n' => NxR S T K R n n'
theorem sim_v {S T : FuncId → Prop} {s s' : Sem Value} (h : Sim P S K (VA S K) s R s') : Sim P S K (NA S T K) (do pure (.value (← s))) R (do pure (.value (← s'))) :=
  Sim.bnd h fun _ _ _ _ hv => Sim.ret (.value hv)
theorem sim_u {S T : FuncId → Prop} {α : Type} {s s' : Sem α} (h : Sim P S K EqA s R s') : Sim P S K (NA S T K) (do let _ ← s; pure .skip) R (do let _ ← s'; pure .skip) :=
  Sim.bnd h fun _ _ _ _ _ => Sim.ret .skip
theorem ArR.maps {S : FuncId → Prop} {ρ ρ' : Operand → Value} {ok : Operand → Bool} (h : ∀ x, ok x = true → VR S K R (ρ x) (ρ' x)) {xs : Array Operand} (hx : xs.all ok = true) : ArR S K R (xs.map ρ) (xs.map ρ') := by
  refine ⟨by simp, fun i v v' h1 h2 => ?_⟩
  rw [Array.getElem?_map] at h1 h2
  obtain ⟨x, hx1, rfl⟩ := Option.map_eq_some_iff.1 h1
  obtain ⟨y, hy1, rfl⟩ := Option.map_eq_some_iff.1 h2
  rw [hx1] at hy1
  cases hy1
  exact h x (Array.all_eq_true.1 hx i (Array.getElem?_eq_some_iff.1 hx1).1 |> fun e => by rwa [(Array.getElem?_eq_some_iff.1 hx1).2] at e)
theorem sim_eqGuard {S : FuncId → Prop} (op : BinOp) (t : TypeId) (x y : Operand) {a a' b b' : Value} (ha : VR S K R a a') (hb : VR S K R b b') (h : P.c.eqGuardType P.c.depth t = false) (h' : P.g.eqGuardType P.g.depth t = false) :
    Sim P S K EqA (eqGuard op t x y a b) R (eqGuard op t x y a' b') := by
  have rest : Sim P S K EqA (do
      match a, b with
      | .nilIface, .nilIface =>
        if (x matches .const _) || (y matches .const _) then return
        if ← Op.eqGuardIn Op.maxDepth t a b then unsupported (.noEntry "binop/eql: two nil values of an interface type with methods, neither of them the literal nil")
      | .agg _, .agg _ =>
        if !(← program).eqGuardType (← program).depth t then return
        if ← Op.eqGuardIn Op.maxDepth t a b then unsupported (.noEntry "binop/eql: two nil values of an interface type with methods, in a part of a struct or an array")
      | _, _ => pure ()) R (do
      match a', b' with
      | .nilIface, .nilIface =>
        if (x matches .const _) || (y matches .const _) then return
        if ← Op.eqGuardIn Op.maxDepth t a' b' then unsupported (.noEntry "binop/eql: two nil values of an interface type with methods, neither of them the literal nil")
      | .agg _, .agg _ =>
        if !(← program).eqGuardType (← program).depth t then return
        if ← Op.eqGuardIn Op.maxDepth t a' b' then unsupported (.noEntry "binop/eql: two nil values of an interface type with methods, in a part of a struct or an array")
      | _, _ => pure ()) := by
    cases ha with
    | nilIface =>
      cases hb with
      | nilIface =>
        simp only
        by_cases hc : ((x matches .const _) || (y matches .const _)) = true
        · rw [if_pos hc]
          exact Sim.ret rfl
        · rw [if_neg hc]
          refine Sim.bnd (A := EqA) ?_ fun R1 h1 c _ e => ?_
          · show Sim P S K EqA (Op.eqGuardIn (9999 + 1) t .nilIface .nilIface) R (Op.eqGuardIn (9999 + 1) t .nilIface .nilIface)
            unfold Op.eqGuardIn
            refine Sim.bnd (sim_underlying t) ?_
            rintro R1 h1 d _ ⟨rfl, _⟩
            cases d <;> exact Sim.ret rfl
          · subst e
            cases c
            · exact Sim.ret rfl
            · exact .inl never_unsupported
      | junk hh => cases b' <;> first | exact hh.elim | exact Sim.ret rfl
      | _ => exact Sim.ret rfl
    | agg e1 e2 =>
      cases hb with
      | agg e3 e4 =>
        simp only
        refine Sim.bnd sim_program ?_
        rintro R1 h1 p q ⟨rfl, rfl⟩
        refine Sim.bnd sim_program ?_
        rintro R2 h2 p q ⟨rfl, rfl⟩
        rw [h, h']
        exact Sim.ret rfl
      | junk hh => cases b' <;> first | exact hh.elim | exact Sim.ret rfl
      | _ => exact Sim.ret rfl
    | junk hh => cases a' <;> first | exact hh.elim | exact Sim.ret rfl
    | _ => exact Sim.ret rfl
  unfold eqGuard
  cases op <;> first | exact Sim.ret rfl | exact rest
theorem sim_cmp {t : TypeId} (op : BinOp) (ho : op = .eql ∨ op = .neq) (he : KeyOk P t) (hR : RelOk P K R) {x x' y y' : Value} (hx : VR (SF fs) K R x x') (hy : VR (SF fs) K R y y') :
    Sim P (SF fs) K (VA (SF fs) K) (binOp op t x y) R (binOp op t x' y') := by
  have k1 : Sim P (SF fs) K (VA (SF fs) K) (do pure (.bool (← Op.equal t x y))) R (do pure (.bool (← Op.equal t x' y'))) :=
    Sim.bnd (sim_equal he hR hx hy) fun R1 _ b _ e => by subst e; exact Sim.ret (.bool _)
  have k2 : Sim P (SF fs) K (VA (SF fs) K) (do pure (.bool (!(← Op.equal t x y)))) R (do pure (.bool (!(← Op.equal t x' y')))) :=
    Sim.bnd (sim_equal he hR hx hy) fun R1 _ b _ e => by subst e; exact Sim.ret (.bool _)
  by_cases hf : Flat x ∧ Flat y
  rotate_left
  · obtain ⟨d, hd, ok⟩ := he.ex
    have hn := never_equal hd ok hf
    refine .inl ?_
    rcases ho with rfl | rfl <;> cases x <;> cases y <;> first
      | exact (hf ⟨True.intro, True.intro⟩).elim
      | exact hn.bnd _
  rcases ho with rfl | rfl
  · cases hx with
    | int k a =>
      cases hy with
      | int k' b =>
        by_cases hk : k = k'
        · subst hk; simp only [binOp, ne_eq, not_true_eq_false, if_false]; exact sim_intCmp _ _ _
        · simp only [binOp, ne_eq, hk, not_false_eq_true, if_true]; exact .inl never_stuck
      | junk hh => exact hf.2.elim
      | _ => exact k1
    | string a =>
      cases hy with
      | string b => exact sim_stringOp .eql a b
      | junk hh => exact hf.2.elim
      | _ => exact k1
    | junk hh => exact hf.1.elim
    | _ => cases hy <;> first | exact k1 | exact hf.2.elim
  · cases hx with
    | int k a =>
      cases hy with
      | int k' b =>
        by_cases hk : k = k'
        · subst hk; simp only [binOp, ne_eq, not_true_eq_false, if_false]; exact sim_intCmp _ _ _
        · simp only [binOp, ne_eq, hk, not_false_eq_true, if_true]; exact .inl never_stuck
      | junk hh => exact hf.2.elim
      | _ => exact k2
    | string a =>
      cases hy with
      | string b => exact sim_stringOp .neq a b
      | junk hh => exact hf.2.elim
      | _ => exact k2
    | junk hh => exact hf.1.elim
    | _ => cases hy <;> first | exact k2 | exact hf.2.elim
theorem sim_convInt {s d : TypeId} (hs : isIntT P.c s = true) (hd : isIntT P.c d = true) {S : FuncId → Prop} {x x' : Value} (hx : VR S K R x x') : Sim P S K (VA S K) (convert s d x) R (convert s d x') := by
  unfold convert
  refine Sim.bnd (sim_underlying s) ?_
  rintro R1 h1 a _ ⟨rfl, ha⟩
  refine Sim.bnd (sim_underlying d) ?_
  rintro R2 h2 b _ ⟨rfl, hb⟩
  have ha' : P.c.underlying s = some a := ha
  have hb' : P.c.underlying d = some b := hb
  unfold isIntT at hs hd
  rw [ha'] at hs
  rw [hb'] at hd
  cases a <;> simp only [Bool.false_eq_true] at hs
  cases b <;> simp only [Bool.false_eq_true] at hd
  cases hx with
  | int k n => exact Sim.ret (.int _ _)
  | pointer h => cases h <;> exact .inl never_unsupported
  | _ => exact .inl never_unsupported
theorem never_underlying {t : TypeId} {d : TypeDesc} (hd : P.c.underlying t = some d) {β : Type} {f : TypeDesc → Sem β} (hf : Never P (f d)) : Never P (underlying t >>= f) := fun w hw => by
  obtain ⟨h1, w1, h2, h3⟩ := hf w hw
  refine ⟨h1, w1, ?_, h3⟩
  have hg : P.g.underlying t = some d := hd
  have hu : (underlying t).run P.g w = .ok d w := by simp [underlying, program, Sem.run, bind, Sem.bind, pure, hg]
  have := Sem.run_bind' P.g (underlying t) f w
  rw [hu] at this
  exact this.trans h2
theorem isU8S_ok {p : Program} {s : TypeId} (h : isU8S p s = true) : ∃ e, p.underlying s = some (.slice e) ∧ p.underlying e = some (.int .u8) := by
  unfold isU8S at h
  split at h
  · next e he =>
    split at h
    · next h2 => exact ⟨e, he, h2⟩
    · cases h
  · cases h
theorem isStrT_ok {p : Program} {s : TypeId} (h : isStrT p s = true) : p.underlying s = some .string := by
  unfold isStrT at h
  split at h
  · next he => exact he
  · cases h
theorem sim_intToString {S : FuncId → Prop} (n : Int) : Sim P S K (VA S K) (Conv.intToString n) R (Conv.intToString n) := by
  unfold Conv.intToString
  first | exact Sim.ret (.string _) | (split <;> exact Sim.ret (.string _))
theorem sim_convStr {s d : TypeId} (hs : isU8S P.c s = true) (hd : isStrT P.c d = true) {S : FuncId → Prop} {x x' : Value} (hx : VR S K R x x') : Sim P S K (VA S K) (convert s d x) R (convert s d x') := by
  obtain ⟨e, hs1, hs2⟩ := isU8S_ok hs
  have hd1 := isStrT_ok hd
  by_cases hj : x = .nilFunc
  · subst hj
    refine .inl ?_
    unfold convert
    exact never_underlying hs1 (never_underlying hd1 (never_underlying hs2 never_stuck))
  unfold convert
  refine Sim.bnd (sim_underlying s) ?_
  rintro R1 h1 a _ ⟨rfl, ha⟩
  refine Sim.bnd (sim_underlying d) ?_
  rintro R2 h2 b _ ⟨rfl, hb⟩
  obtain rfl : a = .slice e := Option.some.inj ((show P.c.underlying s = some a from ha).symm.trans hs1)
  obtain rfl : b = .string := Option.some.inj ((show P.c.underlying d = some b from hb).symm.trans hd1)
  have tail : ∀ {x x' : Value}, VR S K R2 x x' → Sim P S K (VA S K) (do match ← underlying e with | .int .u8 => Conv.bytesToString x | .int .i32 => Conv.runesToString x | _ => stuck "Convert: a slice of what to string?") R2
      (do match ← underlying e with | .int .u8 => Conv.bytesToString x' | .int .i32 => Conv.runesToString x' | _ => stuck "Convert: a slice of what to string?") := by
    intro x x' hx
    refine Sim.bnd (sim_underlying e) ?_
    rintro R3 h3 c _ ⟨rfl, hc⟩
    obtain rfl : c = .int .u8 := Option.some.inj ((show P.c.underlying e = some c from hc).symm.trans hs2)
    exact sim_bytesToString (hx.mono h3.le)
  have hx2 := (hx.mono h1.le).mono h2.le
  cases hx with
  | int k n => exact sim_intToString n
  | string s => exact Sim.ret (.string s)
  | nilFunc => exact absurd rfl hj
  | junk _ => exact absurd rfl hj
  | slice h => cases h <;> exact tail hx2
  | _ => exact tail hx2
def fitCode (p : Program) (q : Cl) : Code → Bool
  | .skip | .ret | .exit _ | .label _ => true
  | .region _ ops _ => ops.all fun o => okOp p q o.op
  | .seq a b => fitCode p q a && fitCode p q b
  | .cond c a b => okX q.fs c && fitCode p q a && fitCode p q b
  | .block _ c | .loop c | .scope c => fitCode p q c
  | _ => false
/-- A function's class. -/
def cls (P : Pair) (fs : FuncId → Bool) (f : FuncId) : Cl := if P.lw f then ⟨fs, P.lw, false⟩ else ⟨fs, P.gs, P.dy⟩
theorem cls_fs (P : Pair) (fs : FuncId → Bool) (f : FuncId) : (cls P fs f).fs = fs := by unfold cls; split <;> rfl
/-- What is asked of the pair of programs. -/
structure Fit (P : Pair) (fs : FuncId → Bool) : Prop where
  zero : ZeroOk P (SF fs)
  fn : ∀ f, P.gs f = true → P.op f = false → ∃ fn c, P.g.funcs[f]? = some fn ∧ P.c.funcs[f]? = some fn ∧ (fn.name == "runtime.NumGoroutine") = false ∧ fn.body = some c ∧ fitCode P.c (cls P fs f) c = true
  opq : ∀ f, P.gs f = true → P.op f = true → ∃ fn fn' c c', P.g.funcs[f]? = some fn ∧ P.c.funcs[f]? = some fn' ∧ (fn.name == "runtime.NumGoroutine") = false ∧ (fn'.name == "runtime.NumGoroutine") = false ∧ fn.body = some c ∧ fn'.body = some c'
  low : ∀ f, P.lw f = true → P.op f = false ∧ P.gs f = true
  dyn : P.dy = true → ∀ f, fs f = true → P.gs f = true
  guard : ∀ t, P.g.eqGuardType P.g.depth t = P.c.eqGuardType P.c.depth t
theorem sim_callFunc (F : Fit P fs) {T : FuncId → Prop} {f : FuncId} (hf : P.gs f = true) (hT : T f) {xs xs' : Array Value} (h : ArR (SF fs) K R xs xs') : Sim P (SF fs) K (NA (SF fs) T K) (callFunc f xs) R (callFunc f xs') := by
  unfold callFunc
  refine Sim.bnd sim_program ?_
  rintro R1 h1 p q ⟨rfl, rfl⟩
  cases ho : P.op f with
  | false =>
    obtain ⟨fn, c, e1, e2, e3, e4, _⟩ := F.fn f hf ho
    simp only [e1, e2, e3, e4, Option.isNone_some, Bool.false_eq_true, if_false]
    exact Sim.ret (.enter hT (h.mono h1.le))
  | true =>
    obtain ⟨fn, fn', c, c', e1, e2, e3, e4, e5, e6⟩ := F.opq f hf ho
    simp only [e1, e2, e3, e4, e5, e6, Option.isNone_some, Bool.false_eq_true, if_false]
    exact Sim.ret (.enter hT (h.mono h1.le))
theorem okX_ov {S : FuncId → Prop} {ρ ρ' : Operand → Value} (hρ : ∀ x, okX fs x = true → VR S K R (ρ x) (ρ' x)) {r : Option Operand} (h : (match r with | some x => okX fs x | none => true) = true) : OvR S K R (r.map ρ) (r.map ρ') := by
  cases r with
  | none => exact .none
  | some x => exact .some (hρ x h)
theorem okX_ps {S : FuncId → Prop} {ρ ρ' : Operand → Value} (hρ : ∀ x, okX fs x = true → VR S K R (ρ x) (ρ' x)) {ps : Array (Nat × Operand)} (h : (ps.all fun x => okX fs x.2) = true) : PsR S K R (ps.map fun (i, x) => (i, ρ x)).toList (ps.map fun (i, x) => (i, ρ' x)).toList := by
  rw [Array.toList_map, Array.toList_map]
  have h' : ∀ x ∈ ps.toList, okX fs x.2 = true := fun x hx => by
    rw [Array.all_eq_true'] at h
    exact h x (by simpa using hx)
  generalize ps.toList = l at h' ⊢
  induction l with
  | nil => exact .nil
  | cons a l ih =>
    obtain ⟨i, x⟩ := a
    exact .cons (hρ x (h' (i, x) (by simp))) (ih fun y hy => h' y (by simp [hy]))
theorem sim_execOp (F : Fit P fs) (hR : RelOk P K R) {ρ ρ' : Operand → Value} (hρ : ∀ x, okX fs x = true → VR (SF fs) K R (ρ x) (ρ' x)) (hff : ∀ g, ρ (.func g) = .func (.func g) #[] #[]) (hff' : ∀ g, ρ' (.func g) = .func (.func g) #[] #[]) {q : Cl} (hq : q.fs = fs) (hqg : ∀ f, q.gs f = true → P.gs f = true) (hqd : q.dy = true → ∀ f, fs f = true → q.gs f = true) {o : Oper} (ok : okOp P.c q o.op = true) :
    Sim P (SF fs) K (NA (SF fs) q.T K) (execOp ρ o) R (execOp ρ' o) := by
  obtain ⟨dst, op, type, pos, after, guard⟩ := o
  subst hq
  simp only at ok
  unfold execOp
  cases op with
  | move x => exact Sim.ret (.value (hρ x ok))
  | assign x => exact Sim.ret (.value (hρ x ok))
  | pick c a b =>
    simp only [okOp, Bool.and_eq_true] at ok
    refine Sim.bnd (sim_asBool (hρ c ok.1.1)) ?_
    rintro R1 h1 x _ rfl
    cases x
    · exact Sim.ret (.value ((hρ b ok.2).mono h1.le))
    · exact Sim.ret (.value ((hρ a ok.1.2).mono h1.le))
  | alloc t => exact sim_v (sim_alloc F.zero t)
  | box t x => exact sim_v (sim_box t (hρ x ok))
  | load t a => exact sim_v (sim_loadAt t (hρ a ok))
  | store t a x =>
    simp only [okOp, Bool.and_eq_true] at ok
    exact sim_u (sim_storeAt t (hρ a ok.1) (hρ x ok.2))
  | binOp op t x y t' =>
    simp only [okOp, Bool.and_eq_true] at ok
    obtain ⟨⟨hx, hy⟩, hk⟩ := ok
    by_cases ho : op = .eql ∨ op = .neq
    · have hk' : keyOk P.c t = true ∧ P.c.eqGuardType P.c.depth t = false := by
        rcases ho with rfl | rfl <;> simpa using hk
      refine sim_v ?_
      refine Sim.bnd (sim_eqGuard op t x y (hρ x hx) (hρ y hy) hk'.2 (by rw [F.guard]; exact hk'.2)) ?_
      rintro R1 h1 _ _ _
      exact sim_cmp op ho (keyOk_ok hk'.1) (h1.ok hR) ((hρ x hx).mono h1.le) ((hρ y hy).mono h1.le)
    · have ho' : op ≠ .eql ∧ op ≠ .neq := ⟨fun e => ho (.inl e), fun e => ho (.inr e)⟩
      refine sim_v ?_
      have hg : ∀ a b, eqGuard op t x y a b = Pure.pure () := fun a b => by
        unfold eqGuard
        cases op <;> first | rfl | exact absurd rfl ho'.1 | exact absurd rfl ho'.2
      rw [hg, hg]
      refine Sim.bnd (A := EqA) (Sim.ret rfl) ?_
      rintro R1 h1 _ _ _
      exact sim_arith op t ho' (h1.ok hR) ((hρ x hx).mono h1.le) ((hρ y hy).mono h1.le)
  | unOp op t x => exact sim_v (sim_unary op (hρ x ok))
  | convert s d x =>
    simp only [okOp, Bool.and_eq_true, Bool.or_eq_true] at ok
    rcases ok.2 with h | h
    · exact sim_v (sim_convInt h.1 h.2 (hρ x ok.1))
    · exact sim_v (sim_convStr h.1 h.2 (hρ x ok.1))
  | nilCheck x =>
    have := sim_nilChk (P := P) (hρ x ok)
    exact this.mono fun R' _ a b h => by
      obtain ⟨v, v', rfl, rfl, h⟩ := h
      exact .value h
  | build t ps => exact sim_v (sim_build F.zero t (okX_ps hρ ok))
  | buildSlice t n ps => exact sim_v (sim_buildSlice F.zero t n (okX_ps hρ ok))
  | makeFunc fn a b =>
    cases fn with
    | func f =>
      simp only [okOp, Bool.and_eq_true] at ok
      have ha := ArR.maps hρ ok.1.2
      have hb := ArR.maps hρ ok.2
      exact sim_v (Sim.ret (.func ok.1.1 ha.1 ha.2 hb.1 hb.2))
    | _ => cases ok
  | makeMap t r => exact sim_v (sim_makeMap t (okX_ov hρ ok))
  | makeSlice t l c =>
    simp only [okOp, Bool.and_eq_true] at ok
    exact sim_v (sim_makeSlice F.zero t (hρ l ok.1) (hρ c ok.2))
  | slice t x lo hi mx =>
    simp only [okOp, Bool.and_eq_true] at ok
    exact sim_v (sim_sliceAt t (hρ x ok.1.1.1) (okX_ov hρ ok.1.1.2) (okX_ov hρ ok.1.2) (okX_ov hρ ok.2))
  | fieldAddr t x f => exact sim_v (sim_fieldAt t (hρ x ok) f)
  | field t x f => exact sim_v (sim_field t (hρ x ok) f)
  | extract x i => exact sim_v (sim_extract (hρ x ok) i)
  | indexAddr t x i =>
    simp only [okOp, Bool.and_eq_true] at ok
    exact sim_v (sim_indexAt t (hρ x ok.1) (hρ i ok.2))
  | index t x i =>
    simp only [okOp, Bool.and_eq_true] at ok
    exact sim_v (sim_index t (hρ x ok.1) (hρ i ok.2))
  | lookup t x i c =>
    simp only [okOp, Bool.and_eq_true] at ok
    refine sim_v (sim_lookup F.zero (fun k e he => ?_) hR (hρ x ok.1.1) (hρ i ok.1.2) c)
    have hm := ok.2
    unfold mapOk at hm
    rw [show P.c.underlying t = some (.map k e) from he] at hm
    exact keyOk_ok hm
  | mapUpdate t m k x =>
    simp only [okOp, Bool.and_eq_true] at ok
    refine sim_u (sim_mapUpdate (fun k e he => ?_) hR (hρ m ok.1.1.1) (hρ k ok.1.1.2) (hρ x ok.1.2))
    have hm := ok.2
    unfold mapOk at hm
    rw [show P.c.underlying t = some (.map k e) from he] at hm
    exact keyOk_ok hm
  | call c =>
    obtain ⟨callee, args, ats⟩ := c
    cases callee with
    | value f =>
      simp only [okOp, Bool.and_eq_true] at ok
      have ha := ArR.maps hρ ok.2
      have key : (∀ g, f ≠ .func g) → Sim P (SF q.fs) K (NA (SF q.fs) q.T K) (execOp ρ ⟨dst, .call ⟨.value f, args, ats⟩, type, pos, after, guard⟩) R (execOp ρ' ⟨dst, .call ⟨.value f, args, ats⟩, type, pos, after, guard⟩) := by
        intro hne
        have h1 : okX q.fs f = true ∧ q.dy = true := by
          have := ok.1
          unfold okCall at this
          cases f with
          | func g => exact absurd rfl (hne g)
          | _ => simpa using this
        have hf := hρ f h1.1
        unfold execOp
        simp only [resolve]
        unfold Deferred.ofValue
        generalize ρ f = vf at hf ⊢
        generalize ρ' f = vf' at hf ⊢
        cases hf with
        | nilFunc =>
          refine .inl ?_
          intro w hw
          exact (never_runtimePanic (P := P) (α := Next) (e := .nilDeref)) w hw
        | junk _ =>
          refine .inl ?_
          intro w hw
          exact (never_runtimePanic (P := P) (α := Next) (e := .nilDeref)) w hw
        | func hs e1 h1' e2 h2 =>
          show Sim P _ K _ (callFunc _ _) R (callFunc _ _)
          exact sim_callFunc F (hqg _ (hqd h1.2 _ hs)) (hqd h1.2 _ hs) (ArR.append (ArR.append ⟨e1, h1'⟩ ha) ⟨e2, h2⟩)
        | _ => exact .inl (Never.bnd never_stuck _)
      cases f with
      | func g =>
        have hg : q.gs g = true := ok.1
        simp only [resolve]
        unfold Deferred.ofValue
        rw [hff, hff']
        show Sim P _ K _ (callFunc _ _) R (callFunc _ _)
        exact sim_callFunc F (hqg _ hg) hg (ArR.append (ArR.append ArR.empty ha) ArR.empty)
      | _ => exact key (fun g e => by cases e)
    | builtin b =>
      cases b with
      | len => exact sim_v (sim_len ats type (ArR.maps hρ ok))
      | cap => exact sim_v (sim_cap ats type (ArR.maps hρ ok))
      | max => exact sim_v (sim_max ats type (ArR.maps hρ ok))
      | min => exact sim_v (sim_min ats type (ArR.maps hρ ok))
      | copy => exact sim_v (sim_copy ats type (ArR.maps hρ ok))
      | append =>
        simp only [okOp, Bool.and_eq_true] at ok
        refine sim_v (sim_append F.zero type (fun xt d he hd k hk => ?_) (ArR.maps hρ ok.1))
        have h2 := ok.2
        unfold notIntT at h2
        rw [he] at h2
        have hd' : P.c.underlying xt = some d := hd
        simp only [hd'] at h2
        subst hk
        cases h2
      | delete =>
        simp only [okOp, Bool.and_eq_true] at ok
        refine sim_v (sim_delete type (fun mt k e he hd => ?_) hR (ArR.maps hρ ok.1))
        have h2 := ok.2
        rw [he] at h2
        simp only at h2
        unfold mapOk at h2
        rw [show P.c.underlying mt = some (.map k e) from hd] at h2
        exact keyOk_ok h2
      | _ => cases ok
    | invoke x y => cases ok
  | _ => cases ok
end
end Go.Tt
namespace Go.Tt
set_option linter.unusedVariables false
def tp (w : World) (T : Tape) (e : Nat) : World := { w with tape := T, drawn := e }
/-- The run came to x, w': so it does on every tape that gives the answers drawn. -/
def Local {α : Type} (p : Program) (s : Sem α) (w : World) : Prop :=
  ∀ x w', s.run p w = .ok x w' → w'.tape = w.tape ∧ w.drawn ≤ w'.drawn ∧ ∀ T e, (∀ n, n < w'.drawn - w.drawn → ∀ q, T (e + n) q = w.tape (w.drawn + n) q) → s.run p (tp w T e) = .ok x (tp w' T (e + (w'.drawn - w.drawn)))
theorem Local.no {α : Type} {p : Program} {s : Sem α} {w : World} (h : ∀ x w', s.run p w ≠ .ok x w') : Local p s w := fun x w' e => absurd e (h x w')
/-- A step that draws nothing, and the rest. -/
theorem Local.after {α : Type} {p : Program} {s s₁ : Sem α} {w w₁ : World} (h : Local p s₁ w₁) (hr : s.run p w = s₁.run p w₁) (ht : w₁.tape = w.tape) (hd : w₁.drawn = w.drawn) (hr' : ∀ T e, s.run p (tp w T e) = s₁.run p (tp w₁ T e)) : Local p s w := by
  intro x w' e
  rw [hr] at e
  obtain ⟨h1, h2, h3⟩ := h x w' e
  refine ⟨h1.trans ht, by omega, fun T e' ha => ?_⟩
  rw [hr', h3 T e' (fun n hn q => by rw [ha n (by omega) q, ht, hd])]
  rw [hd]
theorem Sim.locl {P : Pair} {S : FuncId → Prop} {α β : Type} {K : Pr} {A : Pr → α → β → Prop} {G : Nat} {St : Nat → Prop} (hG : G = P.globals.size) (s : Sem α) :
    ∀ {R : Pr} {w W : World} {s' : Sem β}, Sim P S K A s R s' → WRel S K R G St w W → Tp w W → Local P.g s w := by
  induction s with
  | pure a =>
    rintro R w W s' _ hw ht x w' e
    simp only [Sem.run, Result.ok.injEq] at e
    obtain ⟨rfl, rfl⟩ := e
    exact ⟨rfl, Nat.le_refl _, fun T e _ => by simp [Sem.run]⟩
  | load m a k ih =>
    rintro R w W s' (hn | ⟨rfl, a', k', rfl, ha, hk⟩) hw ht
    · exact .no (hn.no hw.np)
    obtain ⟨hab⟩ := ha
    rename_i b b' o sp
    obtain ⟨ob, ob', h1, h2, h3⟩ := hw.cont b b' hab
    cases h3 with
    | cells hc hz =>
      rename_i c c' T fz fz'
      cases sp with
      | some sp => exact .no fun x w' => by simp [Sem.run, World.cell?, h1, World.farLoad, World.noCell]
      | none =>
        cases hv : c[o]? with
        | none => exact .no fun x w' => by simp [Sem.run, World.cell?, h1, World.farLoad, World.noCell, hv]
        | some v =>
          obtain ⟨v', hv', hvv⟩ := hc.get hv
          have e1 : w.cell? ⟨b, o, none⟩ = some v := by simp [World.cell?, h1, hv]
          refine (ih v (hk v v' hvv) hw ht).after (by rw [Sem.run, e1]) rfl rfl fun T e => ?_
          rw [Sem.run, show (tp w T e).cell? ⟨b, o, none⟩ = some v from e1]
    | _ => exact .no fun x w' => by simp [Sem.run, World.cell?, h1, World.farLoad, World.noCell]
  | store m a v k ih =>
    rintro R w W s' (hn | ⟨rfl, a', v', k', rfl, ha, hv, hk⟩) hw ht
    · exact .no (hn.no hw.np)
    obtain ⟨hab⟩ := ha
    rename_i b b' o sp
    by_cases hna : ∃ cs, v = .agg cs
    · obtain ⟨cs, rfl⟩ := hna; exact .no fun x w' => by simp [Sem.run]
    by_cases hnt : ∃ cs, v = .tuple cs
    · obtain ⟨cs, rfl⟩ := hnt; exact .no fun x w' => by simp [Sem.run]
    have hrun : ∀ w : World, (Sem.store .plain ⟨b, o, sp⟩ v k).run P.g w = (match w.cell? ⟨b, o, sp⟩ with
        | some _ => if w.frozen? ⟨b, o, sp⟩ then .halt (.unsupported (.unsafePointer "a write to bytes that a string shares")) w else k.run P.g (w.setCell ⟨b, o, sp⟩ v)
        | none => match w.farStore P.g ⟨b, o, sp⟩ v (Mode.plain == .atomic) with
          | .ok (w, _) => k.run P.g w
          | .error h => .halt h w) := fun w => by
      rw [Sem.run]
      · rfl
      · exact fun cs e => hna ⟨cs, e⟩
      · exact fun cs e => hnt ⟨cs, e⟩
    obtain ⟨ob, ob', h1, h2, h3⟩ := hw.cont b b' hab
    cases h3 with
    | cells hc hz =>
      rename_i c c' T fz fz'
      cases sp with
      | some sp => exact .no fun x w' => by rw [hrun]; simp [World.cell?, h1, World.farStore, World.noCell]
      | none =>
        cases hv0 : c[o]? with
        | none => exact .no fun x w' => by rw [hrun]; simp [World.cell?, h1, World.farStore, World.noCell, hv0]
        | some v0 =>
          have e1 : w.cell? ⟨b, o, none⟩ = some v0 := by simp [World.cell?, h1, hv0]
          cases hfz : w.frozen? ⟨b, o, none⟩ with
          | true => exact .no fun x w' => by rw [hrun, e1]; simp [hfz]
          | false =>
            have nfz : ¬ inFz fz o := by
              intro ⟨z1, z2⟩
              simp [World.frozen?, h1, z1, z2] at hfz
            have hns : ¬ St b := by
              intro hs
              obtain ⟨_, c2, T2, hi, g1, g2⟩ := hw.st b hs
              rw [h1] at g1
              injection g1 with g1
              injection g1 with g1 _ g3
              subst g1 g3
              exact nfz ⟨Nat.zero_le _, Nat.lt_of_lt_of_le (Array.getElem?_eq_some_iff.1 hv0).1 g2⟩
            have st := WStep.upd hw hab hns (ObR.cells (T := T) (hc.set o hv) hz)
            refine (ih hk st.rel (ht.step st)).after (by rw [hrun, e1]; simp only [hfz, Bool.false_eq_true, if_false]; rw [setCell_eq h1]) rfl rfl fun T' e => ?_
            rw [hrun, show (tp w T' e).cell? ⟨b, o, none⟩ = some v0 from e1]
            simp only [show (tp w T' e).frozen? ⟨b, o, none⟩ = false from hfz, Bool.false_eq_true, if_false]
            rw [setCell_eq (w := tp w T' e) h1]
            rfl
    | _ => exact .no fun x w' => by rw [hrun]; simp [World.cell?, h1, World.farStore, World.noCell]
  | new o k ih =>
    rintro R w W s' (hn | ⟨o', k', rfl, ho, hk⟩) hw ht
    · exact .no (hn.no hw.np)
    have st := WStep.push hw ho
    exact (ih _ (hk _ _ ⟨fun b hb => absurd (hw.lt _ _ hb).1 (Nat.lt_irrefl _), fun a ha => absurd (hw.lt _ _ ha).2 (Nat.lt_irrefl _), by rw [← hG]; exact hw.gle⟩) st.rel (ht.step st)).after (by rw [Sem.run]) rfl rfl fun T e => by rw [Sem.run]; rfl
  | shape r k ih =>
    rintro R w W s' (hn | ⟨r', k', rfl, hrr, hk⟩) hw ht
    · exact .no (hn.no hw.np)
    exact (ih _ (hk _) hw ht).after (by rw [Sem.run]) rfl rfl fun T e => by rw [Sem.run]; rfl
  | freeze a n k ih =>
    rintro R w W s' (hn | h) hw ht
    · exact .no (hn.no hw.np)
    · exact h.elim
  | frozen a k ih =>
    rintro R w W s' (hn | ⟨r', k', rfl, hk⟩) hw ht
    · exact .no (hn.no hw.np)
    exact (ih _ (hk _ true) hw ht).after (by rw [Sem.run]) rfl rfl fun T e => by rw [Sem.run]; rfl
  | getObj r k ih =>
    rintro R w W s' (hn | ⟨r', k', rfl, hrr, hk⟩) hw ht
    · exact .no (hn.no hw.np)
    rcases hw.orR hrr with y | y
    · obtain ⟨ob, ob', h1, h2, h3⟩ := hw.cont r r' y
      have go : (∀ c T fz, ob ≠ .cells c T fz) → Local P.g (.getObj r k) w := fun n1 => by
        refine (ih ob (hk _ _ h3) hw ht).after ?_ rfl rfl fun T e => ?_
        · rw [Sem.run, h1]; cases ob <;> first | rfl | exact absurd rfl (n1 _ _ _)
        · rw [Sem.run, show (tp w T e).heap[r]? = some ob from h1]; cases ob <;> first | rfl | exact absurd rfl (n1 _ _ _)
      cases h3 with
      | cells _ _ => exact .no fun x w' => by rw [Sem.run, h1]; simp
      | _ => exact go (by simp)
    · exact .no fun x w' => by rw [Sem.run, y]; simp [waste]
  | setObj r o k ih =>
    rintro R w W s' (hn | ⟨r', o', k', rfl, hrr, ho, hk⟩) hw ht
    · exact .no (hn.no hw.np)
    rcases hw.orR hrr with y | y
    · obtain ⟨ob, ob', h1, h2, h3⟩ := hw.cont r r' y
      have go : (∀ c T fz, ob ≠ .cells c T fz) → Local P.g (.setObj r o k) w := fun n1 => by
        have hns : ¬ St r := by
          intro hs
          obtain ⟨_, c2, T2, hi, g1, g2⟩ := hw.st r hs
          rw [h1] at g1
          injection g1 with g1
          exact n1 _ _ _ g1
        have st := WStep.upd hw y hns ho
        refine (ih hk st.rel (ht.step st)).after ?_ rfl rfl fun T e => ?_
        · rw [Sem.run, h1]; cases ob <;> first | rfl | exact absurd rfl (n1 _ _ _)
        · rw [Sem.run, show (tp w T e).heap[r]? = some ob from h1]; cases ob <;> first | rfl | exact absurd rfl (n1 _ _ _)
      cases h3 with
      | cells _ _ => exact .no fun x w' => by rw [Sem.run, h1]; simp
      | _ => exact go (by simp)
    · exact .no fun x w' => by rw [Sem.run, y]; simp [waste]
  | choose q k ih =>
    rintro R w W s' (hn | ⟨k', rfl, hk⟩) hw ht
    · exact .no (hn.no hw.np)
    cases hq : q.forced with
    | true => exact (ih 0 (hk 0) hw ht).after (by rw [Sem.run, hq]; rfl) rfl rfl fun T e => by rw [Sem.run, hq]; rfl
    | false =>
      have st := WStep.draw hw
      intro x w' e
      rw [Sem.run, hq] at e
      simp only [Bool.false_eq_true, if_false] at e
      obtain ⟨h1, h2, h3⟩ := ih _ (hk _) st.rel (ht.step st) x w' e
      simp only at h1 h2 h3
      refine ⟨h1, by omega, fun T e' ha => ?_⟩
      rw [Sem.run, hq]
      simp only [Bool.false_eq_true, if_false]
      have ea : T e' q = w.tape w.drawn q := ha 0 (by omega) q
      have := h3 T (e' + 1) (fun n hn q' => by rw [show e' + 1 + n = e' + (n + 1) by omega, show w.drawn + 1 + n = w.drawn + (n + 1) by omega]; exact ha (n + 1) (by omega) q')
      show Sem.run P.g (k (q.cut (T e' q))) (tp w T (e' + 1)) = _
      rw [ea]
      rw [show tp w T (e' + 1) = tp { w with drawn := w.drawn + 1 } T (e' + 1) from rfl, this]
      congr 2
      omega
  | sys c k ih =>
    rintro R w W s' (hn | h) hw ht
    · exact .no (hn.no hw.np)
    · exact h.elim
  | program k ih =>
    rintro R w W s' (hn | ⟨k', rfl, hk⟩) hw ht
    · exact .no (hn.no hw.np)
    exact (ih _ hk hw ht).after (by rw [Sem.run]) rfl rfl fun T e => by rw [Sem.run]
  | mark m k ih =>
    rintro R w W s' (hn | ⟨rfl, k', rfl, hk⟩) hw ht
    · exact .no (hn.no hw.np)
    exact (ih hk hw ht).after (by rw [Sem.run]) rfl rfl fun T e => by rw [Sem.run]
  | halt h =>
    rintro R w W s' _ hw ht
    exact .no fun x w' => by simp [Sem.run]
end Go.Tt
namespace Go.Tt
open Go.Conc (G)
set_option linter.unusedVariables false
structure Fm where
  fn : FuncId
  tmps : Array Value
  todo : List Item
  ret : Bool
def Fm.fr (m : Fm) : Frame := { fn := m.fn, tmps := m.tmps, todo := m.todo, defers := [], mode := if m.ret then .returning else .run, kind := .normal }
def Fm.eval (m : Fm) : Operand → Value
  | .tmp t => m.tmps.getD t undef
  | .const v => v
  | .global g => .pointer (some ⟨g, 0, none⟩)
  | .func f => .func (.func f) #[] #[]
/-- The operation at which the frame stands has yielded v. -/
def Fm.fin (m : Fm) (ops : Array Oper) (i : Nat) (rest : List Nat) (k : List Item) (v : Value) : Fm :=
  { m with tmps := match (ops[i]?).bind (·.dst) with | some d => m.tmps.setIfInBounds d v | none => m.tmps, todo := .inRegion ops rest :: k }
def resOne (t : Array Value) : ResultVar → Sem Value
  | .tmp s => pure (t.getD s undef)
  | .cell s ty => do loadVar ty (← asAddr (t.getD s undef))
/-- A function's results: at most two. -/
def resS : List ResultVar → Array Value → Sem Value
  | [], _ => pure (.tuple #[])
  | [a], t => resOne t a
  | [a, b], t => do
    let x ← resOne t a
    let y ← resOne t b
    pure (.tuple #[x, y])
  | _, _ => stuck ""
def plainRes (l : List ResultVar) : Prop := l = [] ∨ (∃ a, l = [a]) ∨ ∃ a b, l = [a, b]
theorem results_resS {fn : Func} {tmps : Array Value} (h : plainRes fn.results.toList) : results fn tmps = resS fn.results.toList tmps := by
  rcases h with e | ⟨a, e⟩ | ⟨a, b, e⟩
  · have e' : fn.results = #[] := Array.toList_inj.1 e
    simp [results, e', resS]
  · have e' : fn.results = #[a] := Array.toList_inj.1 e
    rw [e]
    cases a <;> simp [results, e', resS, resOne]
  · have e' : fn.results = #[a, b] := Array.toList_inj.1 e
    rw [e]
    cases a <;> cases b <;> simp [results, e', resS, resOne]
/-- Reads alone: the world stands, and the tape says nothing. -/
def TF {α : Type} (p : Program) (s : Sem α) : Prop := ∀ w x w', s.run p w = .ok x w' → w' = w ∧ ∀ T e, s.run p (tp w T e) = .ok x (tp w T e)
theorem TF.ret {α : Type} {p : Program} (a : α) : TF p (Pure.pure a : Sem α) := fun w x w' h => by
  simp only [Pure.pure, Sem.run, Result.ok.injEq] at h
  obtain ⟨rfl, rfl⟩ := h
  exact ⟨rfl, fun T e => rfl⟩
theorem TF.bnd {α β : Type} {p : Program} {s : Sem α} {f : α → Sem β} (hs : TF p s) (hf : ∀ a, TF p (f a)) : TF p (s >>= f) := fun w x w' h => by
  have h2 := (Sem.run_bind' p s f w).symm.trans h
  cases hx : s.run p w with
  | halt y w2 => rw [hx] at h2; cases h2
  | ok a w1 =>
    rw [hx] at h2
    obtain ⟨rfl, h3⟩ := hs w a w1 hx
    obtain ⟨rfl, h4⟩ := hf a w1 x w' h2
    refine ⟨rfl, fun T e => (Sem.run_bind' p s f _).trans ?_⟩
    rw [h3 T e]
    exact h4 T e
theorem TF.halt {α : Type} {p : Program} {s : Sem α} (h : ∀ w x w', s.run p w ≠ .ok x w') : TF p s := fun w x w' e => absurd e (h w x w')
theorem tf_stuck {α : Type} {p : Program} {why : String} : TF p (stuck why : Sem α) := TF.halt fun w x w' e => by simp [stuck, Sem.run] at e
theorem tf_program {p : Program} : TF p program := fun w x w' h => by
  simp only [program, Sem.run, Result.ok.injEq] at h
  obtain ⟨rfl, rfl⟩ := h
  exact ⟨rfl, fun T e => rfl⟩
theorem tf_load {p : Program} (a : Addr) : TF p (load a) := fun w x w' h => by
  unfold load at h ⊢
  simp only [Sem.run] at h ⊢
  cases hc : w.cell? a with
  | none =>
    rw [hc] at h
    simp only at h
    cases hf : World.farLoad p w a (Mode.plain == Mode.atomic) with
    | error y => rw [hf] at h; cases h
    | ok v =>
      rw [hf] at h
      simp only [Result.ok.injEq] at h
      refine ⟨h.2.symm, fun T e => ?_⟩
      have e1 : (tp w T e).cell? a = none := hc
      have e2 : World.farLoad p (tp w T e) a (Mode.plain == Mode.atomic) = .ok v := (show World.farLoad p (tp w T e) a (Mode.plain == Mode.atomic) = World.farLoad p w a (Mode.plain == Mode.atomic) from rfl).trans hf
      rw [e1, e2]
      simp only [h.1]
  | some v =>
    rw [hc] at h
    simp only [Result.ok.injEq] at h
    refine ⟨h.2.symm, fun T e => ?_⟩
    have : (tp w T e).cell? a = some v := hc
    rw [this, h.1]
theorem tf_underlying {p : Program} (t : TypeId) : TF p (underlying t) := by
  unfold underlying
  refine tf_program.bnd fun q => ?_
  split
  · exact .ret _
  · exact tf_stuck
theorem tf_isAgg {p : Program} (t : TypeId) : TF p (isAgg t) := by
  unfold isAgg
  refine (tf_underlying t).bnd fun q => ?_
  split <;> exact .ret _
theorem tf_sizeOf {p : Program} (t : TypeId) : TF p (sizeOf t) := by
  unfold sizeOf typeInfo
  refine TF.bnd (tf_program.bnd fun q => ?_) fun i => .ret _
  split
  · exact .ret _
  · exact tf_stuck
theorem tf_loadCells {p : Program} (a : Addr) : ∀ (n i : Nat) (acc : Array Value), TF p (loadCellsFrom a i n acc)
  | 0, i, acc => .ret _
  | n + 1, i, acc => (tf_load _).bnd fun v => tf_loadCells a n (i + 1) (acc.push v)
theorem tf_loadVar {p : Program} (t : TypeId) (a : Addr) : TF p (loadVar t a) := by
  unfold loadVar
  refine (tf_isAgg t).bnd fun b => ?_
  split
  · exact (tf_sizeOf t).bnd fun n => (tf_loadCells a n 0 #[]).bnd fun x => .ret _
  · exact tf_load a
theorem tf_resOne {p : Program} (t : Array Value) (r : ResultVar) : TF p (resOne t r) := by
  cases r with
  | tmp s => exact .ret _
  | cell s ty =>
    refine TF.bnd ?_ fun a => tf_loadVar ty a
    unfold asAddr
    split
    · exact .ret _
    · exact TF.halt fun w x w' e => by simp [runtimePanic, goPanic, Sem.run, bind, Sem.bind, program] at e
    · exact tf_stuck
theorem tf_resS {p : Program} (t : Array Value) : ∀ l : List ResultVar, TF p (resS l t)
  | [] => .ret _
  | [a] => tf_resOne t a
  | [a, b] => (tf_resOne t a).bnd fun x => (tf_resOne t b).bnd fun y => .ret _
  | _ :: _ :: _ :: _ => tf_stuck
theorem resS_plain {p : Program} {l : List ResultVar} {t : Array Value} {w w' : World} {v : Value} (h : (resS l t).run p w = .ok v w') : plainRes l := by
  match l, h with
  | [], _ => exact .inl rfl
  | [a], _ => exact .inr (.inl ⟨a, rfl⟩)
  | [a, b], _ => exact .inr (.inr ⟨a, b, rfl⟩)
  | a :: b :: c :: l, h => simp [resS, stuck, Sem.run] at h
def opS (p : Program) (m : Fm) (ms : List Fm) (ops : Array Oper) (i : Nat) (rest : List Nat) (k : List Item) : Next → Sem (Fm × List Fm)
  | .value v => pure (m.fin ops i rest k v, ms)
  | .skip => pure (m.fin ops i rest k undef, ms)
  | .enter f args =>
    match p.funcs[f]? with
    | some fn => (match fn.body with
      | some c => pure (⟨f, args ++ Array.replicate (fn.ntmps - args.size) undef, [.code c], false⟩, m :: ms)
      | none => stuck "")
    | none => stuck ""
  | _ => stuck ""
def retS (p : Program) (m : Fm) : List Fm → Sem (Fm × List Fm)
  | [] => stuck ""
  | c :: rest =>
    match c.todo, p.funcs[m.fn]? with
    | .inRegion ops (i :: r) :: k, some fn => do
      let v ← resS fn.results.toList m.tmps
      pure (c.fin ops i r k v, rest)
    | _, _ => stuck ""
theorem retS_inv {p : Program} {m c m1 : Fm} {rest ms1 : List Fm} {w w1 : World} (h : (retS p m (c :: rest)).run p w = .ok (m1, ms1) w1) :
    ∃ ops i r k v fn, c.todo = .inRegion ops (i :: r) :: k ∧ p.funcs[m.fn]? = some fn ∧ (resS fn.results.toList m.tmps).run p w = .ok v w1 ∧ m1 = c.fin ops i r k v ∧ ms1 = rest := by
  unfold retS at h
  simp only at h
  split at h
  · next ops i r k fn hc hf =>
    have h2 := (Sem.run_bind' p _ _ w).symm.trans h
    cases hx : (resS fn.results.toList m.tmps).run p w with
    | halt y w2 => rw [hx] at h2; cases h2
    | ok v w2 =>
      rw [hx] at h2
      simp only [Result.andThen, Pure.pure, Sem.run, Result.ok.injEq, Prod.mk.injEq] at h2
      obtain ⟨⟨rfl, rfl⟩, rfl⟩ := h2
      exact ⟨ops, i, r, k, v, fn, hc, hf, hx, rfl, rfl⟩
  · simp [stuck, Sem.run] at h
theorem retS_mk {p : Program} {m c : Fm} {rest : List Fm} {w w1 : World} {ops : Array Oper} {i : Nat} {r : List Nat} {k : List Item} {v : Value} {fn : Func} (hc : c.todo = .inRegion ops (i :: r) :: k) (hf : p.funcs[m.fn]? = some fn) (hv : (resS fn.results.toList m.tmps).run p w = .ok v w1) :
    (retS p m (c :: rest)).run p w = .ok (c.fin ops i r k v, rest) w1 ∧ ∀ es, (retS p m (c :: rest)).events p w es = (resS fn.results.toList m.tmps).events p w es := by
  unfold retS
  simp only [hc, hf]
  constructor
  · refine (Sem.run_bind' p _ _ w).trans ?_
    rw [hv]; rfl
  · intro es
    refine (Sem.events_bind' p _ _ w es).trans ?_
    rw [hv, Result.evThen_ok]; rfl
def runS (p : Program) (m : Fm) (ms : List Fm) : Sem (Fm × List Fm) :=
  match m.todo with
  | [] => pure ({ m with ret := true }, ms)
  | .code .ret :: _ => pure ({ m with ret := true }, ms)
  | .code .skip :: k => pure ({ m with todo := k }, ms)
  | .code (.label _) :: k => pure ({ m with todo := k }, ms)
  | .inBlock _ :: k => pure ({ m with todo := k }, ms)
  | .inScope _ :: k => pure ({ m with todo := k }, ms)
  | .code (.seq a b) :: k => pure ({ m with todo := .code a :: .code b :: k }, ms)
  | .code (.cond c a b) :: k => (match m.eval c with
    | .bool t => pure ({ m with todo := .code (if t then a else b) :: k }, ms)
    | _ => stuck "")
  | .code (.block id body) :: k => pure ({ m with todo := .code body :: .inBlock id :: k }, ms)
  | .code (.loop body) :: k => pure ({ m with todo := .code body :: .inLoop body :: k }, ms)
  | .inLoop body :: k => pure ({ m with todo := .code body :: .inLoop body :: k }, ms)
  | .code (.scope body) :: k => pure ({ m with todo := .code body :: .inScope body :: k }, ms)
  | .code (.exit id) :: k => (match exitTo id k with
    | some k' => pure ({ m with todo := k' }, ms)
    | none => stuck "")
  | .code (.region id ops draw) :: k =>
    if draw then do
      let t ← choose (.order m.fn id)
      pure ({ m with todo := .inRegion ops (Region.schedule (p.follows .mixedOrders) ops t) :: k }, ms)
    else pure ({ m with todo := .inRegion ops (List.range ops.size) :: k }, ms)
  | .inRegion _ [] :: k => pure ({ m with todo := k }, ms)
  | .inRegion ops (i :: rest) :: k =>
    if ((ops[i]?).map (Region.wanted · (yielded ops m.tmps))).getD false then
      match ops[i]? with
      | some o => do
        let n ← execOp m.eval o
        opS p m ms ops i rest k n
      | none => stuck ""
    else pure (m.fin ops i rest k undef, ms)
  | _ => stuck ""
def stepS (p : Program) (m : Fm) (ms : List Fm) : Sem (Fm × List Fm) := if m.ret then retS p m ms else runS p m ms
theorem Fm.eval_fr (m : Fm) : m.fr.eval = m.eval := by funext x; cases x <;> rfl
theorem Fm.fr_run {m : Fm} (h : m.ret = false) : m.fr = { fn := m.fn, tmps := m.tmps, todo := m.todo, defers := [], mode := .run, kind := .normal } := by simp [Fm.fr, h]
theorem Fm.fr_ret {m : Fm} (h : m.ret = true) : m.fr = { fn := m.fn, tmps := m.tmps, todo := m.todo, defers := [], mode := .returning, kind := .normal } := by simp [Fm.fr, h]
theorem finish_fr {m : Fm} {ops : Array Oper} {i : Nat} {rest : List Nat} {k : List Item} (h : m.todo = .inRegion ops (i :: rest) :: k) (v : Value) : m.fr.finish v = (m.fin ops i rest k v).fr := by
  simp only [Frame.finish, Fm.fr, Fm.fin, h]
  cases (ops[i]?).bind (·.dst) <;> rfl
theorem enter_fr {p : Program} {f : FuncId} {fn : Func} {c : Code} {args : Array Value} (hf : p.funcs[f]? = some fn) (hb : fn.body = some c) :
    Frame.enter p f args .normal = (⟨f, args ++ Array.replicate (fn.ntmps - args.size) undef, [.code c], false⟩ : Fm).fr := by
  simp [Frame.enter, Fm.fr, hf, hb]
/-- It is the goroutine's step. -/
theorem stepG_stepS {p : Program} {main : Bool} {m m' : Fm} {ms ms' : List Fm} {w w' : World} (h : (stepS p m ms).run p w = .ok (m', ms') w') (base : List Frame) :
    stepG p main (G m.fr (ms.map Fm.fr ++ base)) w = .go (G m'.fr (ms'.map Fm.fr ++ base)) w' (seen p m.fn ((stepS p m ms).events p w #[])) := by
  have none0 : seen p m.fn #[] = #[] := Conc.seen_none p _
  unfold stepS at h ⊢
  by_cases hr : m.ret = true
  · simp only [hr, if_true] at h ⊢
    cases ms with
    | nil => simp [retS, stuck, Sem.run] at h
    | cons c rest =>
      obtain ⟨ops, i, r, k, v, fn, hc, hf, hv, rfl, rfl⟩ := retS_inv h
      rw [(retS_mk hc hf hv).2]
      have he : results fn m.tmps = resS fn.results.toList m.tmps := results_resS (resS_plain hv)
      rw [Fm.fr_ret hr, List.map_cons, List.cons_append]
      have hfin : c.fr.finish v = (c.fin ops i r k v).fr := finish_fr hc v
      rw [← hfin]
      simp [G, stepG, unwind, doReturn, hf, he, hv, GStep.after]
  · have hr' : m.ret = false := by simpa using hr
    simp only [hr', Bool.false_eq_true, if_false] at h ⊢
    have hev : m.fr.eval = m.eval := m.eval_fr
    rw [Fm.fr_run hr'] at hev ⊢
    obtain ⟨fn, tmps, todo, ret⟩ := m
    simp only at hr' hr none0 hev ⊢
    subst hr'
    unfold runS at h ⊢
    simp only at h ⊢
    split at h
    all_goals first
      | (simp [stuck, Sem.run] at h; done)
      | (simp only [Pure.pure, Sem.run, Result.ok.injEq, Prod.mk.injEq] at h
         obtain ⟨⟨rfl, rfl⟩, rfl⟩ := h
         simp [G, stepG, stepG.exec, Fm.fr, none0, GStep.after]
         done)
      | skip
    case h_8 _ c a b k =>
      generalize hv : Fm.eval { fn := fn, tmps := tmps, todo := Item.code (Code.cond c a b) :: k, ret := false } c = v at h ⊢
      have hc : Frame.eval { fn := fn, tmps := tmps, todo := Item.code (Code.cond c a b) :: k, defers := [], mode := .run, kind := .normal } c = v := (congrFun hev c).trans hv
      cases v with
      | bool t =>
        simp only [Pure.pure, Sem.run, Result.ok.injEq, Prod.mk.injEq] at h
        obtain ⟨⟨rfl, rfl⟩, rfl⟩ := h
        simp [G, stepG, stepG.exec, Fm.fr, none0, hc]
      | _ => simp [stuck, Sem.run] at h
    case h_13 _ id k =>
      cases he : exitTo id k with
      | some k' =>
        rw [he] at h
        simp only [Pure.pure, Sem.run, Result.ok.injEq, Prod.mk.injEq] at h
        obtain ⟨⟨rfl, rfl⟩, rfl⟩ := h
        simp [G, stepG, stepG.exec, Fm.fr, none0, he]
      | none => rw [he] at h; simp [stuck, Sem.run] at h
    case h_14 _ id ops draw k =>
      cases draw with
      | true =>
        simp [choose, Sem.run, Question.forced, Question.cut, bind, Sem.bind, pure] at h
        obtain ⟨⟨rfl, rfl⟩, rfl⟩ := h
        simp [G, stepG, stepG.exec, Fm.fr, none0, choose, Sem.run, Question.forced, Question.cut, Sem.events, Sem.runT, bind, Sem.bind, pure]
      | false =>
        simp only [Bool.false_eq_true, if_false, Pure.pure, Sem.run, Result.ok.injEq, Prod.mk.injEq] at h
        obtain ⟨⟨rfl, rfl⟩, rfl⟩ := h
        simp [G, stepG, stepG.exec, Fm.fr, none0]
    case h_16 _ ops i rest k =>
      have hae : ∀ x, Act.eval ⟨tmps, []⟩ x = Fm.eval { fn := fn, tmps := tmps, todo := Item.inRegion ops (i :: rest) :: k, ret := false } x := fun x => by cases x <;> rfl
      have hae' : Act.eval ⟨tmps, []⟩ = Fm.eval { fn := fn, tmps := tmps, todo := Item.inRegion ops (i :: rest) :: k, ret := false } := funext hae
      have hfin : ∀ v, (Conc.base fn).at (Act.put ⟨tmps, []⟩ ((ops[i]?).bind (·.dst)) v) (.inRegion ops rest :: k) = (Fm.fin { fn := fn, tmps := tmps, todo := Item.inRegion ops (i :: rest) :: k, ret := false } ops i rest k v).fr := fun v => by
        unfold Fm.fin Act.put
        cases (ops[i]?).bind (·.dst) <;> rfl
      have hb : (Conc.base fn).kind ≠ .early := by simp [Conc.base]
      cases ho : ops[i]? with
      | none =>
        rw [ho] at h
        simp only [Option.map_none, Option.getD_none, Bool.false_eq_true, if_false, Pure.pure, Sem.run, Result.ok.injEq, Prod.mk.injEq] at h
        obtain ⟨⟨rfl, rfl⟩, rfl⟩ := h
        have hff := finish_fr (m := { fn := fn, tmps := tmps, todo := Item.inRegion ops (i :: rest) :: k, ret := false }) rfl undef
        have hfr : (Fm.fr { fn := fn, tmps := tmps, todo := Item.inRegion ops (i :: rest) :: k, ret := false }) = { fn := fn, tmps := tmps, todo := Item.inRegion ops (i :: rest) :: k, defers := [], mode := .run, kind := .normal } := rfl
        rw [hfr] at hff
        simp [G, stepG, stepG.exec, none0, ho, hff]
      | some o =>
        rw [ho] at h
        simp only [ho, Option.bind_some] at hfin
        simp only [Option.map_some, Option.getD_some] at h ⊢
        by_cases hw : Region.wanted o (yielded ops tmps) = true
        · rw [if_pos hw] at h
          rw [if_pos hw]
          have hrb := Sem.run_bind' p (execOp (Fm.eval { fn := fn, tmps := tmps, todo := Item.inRegion ops (i :: rest) :: k, ret := false }) o) (opS p { fn := fn, tmps := tmps, todo := Item.inRegion ops (i :: rest) :: k, ret := false } ms ops i rest k) w
          have h' := hrb.symm.trans h
          have hevb := Sem.events_bind' p (execOp (Fm.eval { fn := fn, tmps := tmps, todo := Item.inRegion ops (i :: rest) :: k, ret := false }) o) (opS p { fn := fn, tmps := tmps, todo := Item.inRegion ops (i :: rest) :: k, ret := false } ms ops i rest k) w #[]
          cases hx : (execOp (Fm.eval { fn := fn, tmps := tmps, todo := Item.inRegion ops (i :: rest) :: k, ret := false }) o).run p w with
          | halt y w1 => rw [hx] at h'; cases h'
          | ok n w1 =>
            rw [hx] at h' hevb
            have hx' : (execOp (Act.eval ⟨tmps, []⟩) o).run p w = .ok n w1 := by rw [hae']; exact hx
            have hl : Conc.listed p fn ⟨tmps, []⟩ o w = seen p fn ((execOp (Fm.eval { fn := fn, tmps := tmps, todo := Item.inRegion ops (i :: rest) :: k, ret := false }) o).events p w #[]) := by unfold Conc.listed; rw [hae']
            have h2 : (opS p { fn := fn, tmps := tmps, todo := Item.inRegion ops (i :: rest) :: k, ret := false } ms ops i rest k n).run p w1 = .ok (m', ms') w' := h'
            have fine : ∀ (r : Fm × List Fm) (K : Sem (Fm × List Fm)), opS p { fn := fn, tmps := tmps, todo := Item.inRegion ops (i :: rest) :: k, ret := false } ms ops i rest k n = Pure.pure r →
                (m', ms') = r ∧ w' = w1 ∧ seen p fn ((do let n ← execOp (Fm.eval { fn := fn, tmps := tmps, todo := Item.inRegion ops (i :: rest) :: k, ret := false }) o; opS p { fn := fn, tmps := tmps, todo := Item.inRegion ops (i :: rest) :: k, ret := false } ms ops i rest k n : Sem (Fm × List Fm)).events p w #[]) = Conc.listed p fn ⟨tmps, []⟩ o w := fun r _ e => by
              rw [e] at h2
              simp only [Pure.pure, Sem.run, Result.ok.injEq] at h2
              refine ⟨h2.1.symm, h2.2.symm, ?_⟩
              rw [hl]
              congr 1
              refine hevb.trans ?_
              rw [Result.evThen_ok, e]; rfl
            cases n with
            | value v =>
              obtain ⟨e1, rfl, e3⟩ := fine _ (stuck "") rfl
              injection e1 with e1 e2
              subst e1 e2
              rw [e3]
              have := Conc.stepG_value (main := main) (b := Conc.base fn) (a := ⟨tmps, []⟩) (rest := rest) (k := k) (cs := List.map Fm.fr ms' ++ base) ho hw hb hx'
              rw [hfin] at this
              exact this
            | skip =>
              obtain ⟨e1, rfl, e3⟩ := fine _ (stuck "") rfl
              injection e1 with e1 e2
              subst e1 e2
              rw [e3]
              have := Conc.stepG_none (main := main) (b := Conc.base fn) (a := ⟨tmps, []⟩) (rest := rest) (k := k) (cs := List.map Fm.fr ms' ++ base) ho hw hb hx'
              rw [hfin] at this
              exact this
            | enter f args =>
              have h3 := h2
              simp only [opS] at h3
              cases hf : p.funcs[f]? with
              | none => rw [hf] at h3; simp [stuck, Sem.run] at h3
              | some fn2 =>
                cases hbd : fn2.body with
                | none => rw [hf] at h3; simp only [hbd] at h3; simp [stuck, Sem.run] at h3
                | some c =>
                  obtain ⟨e1, rfl, e3⟩ := fine _ (stuck "") (by simp only [opS, hf, hbd]; rfl)
                  injection e1 with e1 e2
                  subst e1 e2
                  rw [e3]
                  have := Conc.stepG_enter (main := main) (b := Conc.base fn) (a := ⟨tmps, []⟩) (rest := rest) (k := k) (cs := List.map Fm.fr ms ++ base) ho hw hb hx'
                  rw [enter_fr hf hbd] at this
                  exact this
            | _ => simp [opS, stuck, Sem.run] at h2
        · rw [if_neg hw] at h
          rw [if_neg hw]
          simp only [Pure.pure, Sem.run, Result.ok.injEq, Prod.mk.injEq] at h
          obtain ⟨⟨rfl, rfl⟩, rfl⟩ := h
          have := Conc.stepG_unwanted (P := p) (main := main) (b := Conc.base fn) (a := ⟨tmps, []⟩) (rest := rest) (k := k) (cs := List.map Fm.fr ms ++ base) (w := w) ho (by simpa using hw)
          rw [hfin] at this
          rw [show seen p fn (Sem.events p (Pure.pure (Fm.fin { fn := fn, tmps := tmps, todo := Item.inRegion ops (i :: rest) :: k, ret := false } ops i rest k undef, ms) : Sem (Fm × List Fm)) w #[]) = #[] from none0]
          exact this
end Go.Tt
namespace Go.Tt
set_option linter.unusedVariables false
def fitItem (p : Program) (q : Cl) : Item → Bool
  | .code c | .inLoop c | .inScope c => fitCode p q c
  | .inBlock _ => true
  | .inRegion ops _ => ops.all fun o => okOp p q o.op
  | _ => false
def Wait (m : Fm) : Prop := m.ret = false ∧ ∃ ops i r k, m.todo = .inRegion ops (i :: r) :: k
section
variable (P : Pair) (fs : FuncId → Bool) (K R : Pr)
structure FmR (m m' : Fm) : Prop where
  fn : m.fn = m'.fn
  todo : m.todo = m'.todo
  ret : m.ret = m'.ret
  tmps : ArR (SF fs) K R m.tmps m'.tmps
  fit : ∀ i ∈ m.todo, fitItem P.c (cls P fs m.fn) i = true
  infs : ∃ fn fn', P.g.funcs[m.fn]? = some fn ∧ P.c.funcs[m.fn]? = some fn' ∧ fn.results = fn'.results ∧ plainRes fn.results.toList
inductive MsR : List Fm → List Fm → Prop
  | nil : MsR [] []
  | cons {m m' : Fm} {ms ms' : List Fm} : FmR P fs K R m m' → Wait m → MsR ms ms' → MsR (m :: ms) (m' :: ms')
end
/-- The functions' results are plain. -/
structure Fit2 (P : Pair) (fs : FuncId → Bool) : Prop extends Fit P fs where
  res : ∀ f, P.gs f = true → P.op f = false → ∀ fn, P.c.funcs[f]? = some fn → plainRes fn.results.toList
  follows : P.g.follows .mixedOrders = P.c.follows .mixedOrders
section
variable {P : Pair} {fs : FuncId → Bool} {K R R' : Pr}
theorem FmR.mono (h : R.le R') {m m' : Fm} (x : FmR P fs K R m m') : FmR P fs K R' m m' := ⟨x.fn, x.todo, x.ret, x.tmps.mono h, x.fit, x.infs⟩
theorem MsR.mono (h : R.le R') {ms ms' : List Fm} (x : MsR P fs K R ms ms') : MsR P fs K R' ms ms' := by
  induction x with
  | nil => exact .nil
  | cons a b _ ih => exact .cons (a.mono h) b ih
theorem vr_undef {S : FuncId → Prop} : VR S K R undef undef := .tuple rfl (fun i v v' h => by simp at h)
theorem FmR.eval {m m' : Fm} (x : FmR P fs K R m m') : ∀ o, okX fs o = true → VR (SF fs) K R (m.eval o) (m'.eval o) := by
  intro o ho
  cases o with
  | tmp t => exact x.tmps.getD t vr_undef
  | const v => exact okConst_ok ho
  | global g => cases ho
  | func f => exact .func ho rfl (fun i v v' h => by simp at h) rfl (fun i v v' h => by simp at h)
/-- A function's frame at its beginning. -/
def entF (p : Program) (f : FuncId) (xs : Array Value) : Fm :=
  match p.funcs[f]? with
  | some fn => (match fn.body with
    | some c => ⟨f, xs ++ Array.replicate (fn.ntmps - xs.size) undef, [.code c], false⟩
    | none => ⟨f, xs, [], false⟩)
  | none => ⟨f, xs, [], false⟩
/-- Both have come to a function whose texts differ. -/
structure OpR (P : Pair) (fs : FuncId → Bool) (K R : Pr) (x y : Fm × List Fm) : Prop where
  ex : ∃ f xs xs' c c' rest rest', P.op f = true ∧ P.gs f = true ∧ ArR (SF fs) K R xs xs' ∧ x = (entF P.g f xs, c :: rest) ∧ y = (entF P.c f xs', c' :: rest') ∧ FmR P fs K R c c' ∧ Wait c ∧ MsR P fs K R rest rest' ∧ P.lw c.fn = false
abbrev StA (P : Pair) (fs : FuncId → Bool) (K : Pr) (l : Bool) : Pr → (Fm × List Fm) → (Fm × List Fm) → Prop := fun R x y =>
  (FmR P fs K R x.1 y.1 ∧ MsR P fs K R x.2 y.2 ∧ (l = true → P.lw x.1.fn = true ∧ ∀ c ∈ x.2, P.lw c.fn = true)) ∨ (l = false ∧ OpR P fs K R x y)
theorem FmR.fin {m m' : Fm} (x : FmR P fs K R m m') {ops : Array Oper} {i : Nat} {rest : List Nat} {k : List Item} (h : m.todo = .inRegion ops (i :: rest) :: k) {v v' : Value} (hv : VR (SF fs) K R v v') :
    FmR P fs K R (m.fin ops i rest k v) (m'.fin ops i rest k v') := by
  refine ⟨x.fn, rfl, x.ret, ?_, fun j hj => ?_, x.infs⟩
  · unfold Fm.fin
    cases (ops[i]?).bind (·.dst) with
    | none => exact x.tmps
    | some d => exact x.tmps.set d hv
  · simp only [Fm.fin, List.mem_cons] at hj
    rcases hj with rfl | hj
    · have := x.fit (.inRegion ops (i :: rest)) (by rw [h]; simp)
      exact this
    · exact x.fit j (by rw [h]; simp [hj])
abbrev LowS (P : Pair) (l : Bool) (m : Fm) (ms : List Fm) : Prop := l = true → P.lw m.fn = true ∧ ∀ c ∈ ms, P.lw c.fn = true
theorem ArR.pad {xs xs' : Array Value} (ha : ArR (SF fs) K R xs xs') (n : Nat) : ArR (SF fs) K R (xs ++ Array.replicate (n - xs.size) undef) (xs' ++ Array.replicate (n - xs'.size) undef) := by
  rw [ha.1]
  refine ha.append ⟨by simp, fun j v v' h1 h2 => ?_⟩
  rw [Array.getElem?_replicate] at h1 h2
  split at h1
  · rename_i hj
    rw [if_pos hj] at h2
    cases h1; cases h2; exact vr_undef
  · cases h1
theorem cls_gs (F : Fit P fs) (g : FuncId) : ∀ f, (cls P fs g).gs f = true → P.gs f = true := fun f h => by
  unfold cls at h
  split at h
  · exact (F.low f h).2
  · exact h
theorem cls_dy (F : Fit P fs) (g : FuncId) : (cls P fs g).dy = true → ∀ f, fs f = true → (cls P fs g).gs f = true := fun h f hf => by
  unfold cls at h ⊢
  split at h
  · cases h
  · next e => rw [if_neg e]; exact F.dyn h f hf
theorem sim_opS (F : Fit2 P fs) {l : Bool} {m m' : Fm} {ms ms' : List Fm} (hm : FmR P fs K R m m') (hms : MsR P fs K R ms ms') (hlow : LowS P l m ms) (hr : m.ret = false) {ops : Array Oper} {i : Nat} {rest : List Nat} {k : List Item} (h : m.todo = .inRegion ops (i :: rest) :: k) {n n' : Next} (hn : NxR (SF fs) (cls P fs m.fn).T K R n n') :
    Sim P (SF fs) K (StA P fs K l) (opS P.g m ms ops i rest k n) R (opS P.c m' ms' ops i rest k n') := by
  cases hn with
  | value hv => exact Sim.ret (.inl ⟨hm.fin h hv, hms, hlow⟩)
  | skip => exact Sim.ret (.inl ⟨hm.fin h vr_undef, hms, hlow⟩)
  | enter hT ha =>
    rename_i f xs xs'
    have hlf : P.lw m.fn = true → P.lw f = true := fun e => by
      unfold cls at hT
      rw [if_pos e] at hT
      exact hT
    have hf : P.gs f = true := cls_gs F.toFit m.fn f hT
    cases ho : P.op f with
    | false =>
      obtain ⟨fn, c, e1, e2, e3, e4, e5⟩ := F.fn f hf ho
      simp only [opS, e1, e2, e4]
      refine Sim.ret (.inl ⟨⟨rfl, rfl, rfl, ha.pad _, fun j hj => ?_, ⟨fn, fn, e1, e2, rfl, F.res f hf ho fn e2⟩⟩, .cons hm ⟨hr, ops, i, rest, k, h⟩ hms, fun e => ⟨hlf (hlow e).1, fun c hc => ?_⟩⟩)
      · simp only [List.mem_cons, List.not_mem_nil, or_false] at hj
        subst hj; exact e5
      · simp only [List.mem_cons] at hc
        rcases hc with rfl | hc
        · exact (hlow e).1
        · exact (hlow e).2 c hc
    | true =>
      obtain ⟨fn, fn', c, c', e1, e2, e3, e4, e5, e6⟩ := F.opq f hf ho
      have hl0 : P.lw m.fn = false := by
        cases hq : P.lw m.fn with
        | false => rfl
        | true => have := (F.low f (hlf hq)).1; rw [ho] at this; cases this
      have hl : l = false := by
        cases l with
        | false => rfl
        | true => have := (hlow rfl).1; rw [hl0] at this; cases this
      simp only [opS, e1, e2, e5, e6]
      refine Sim.ret (.inr ⟨hl, ⟨f, xs, xs', m, m', ms, ms', ho, hf, ha, ?_, ?_, hm, ⟨hr, ops, i, rest, k, h⟩, hms, hl0⟩⟩)
      · have : P.g.funcs[f]? = some fn := e1
        simp only [entF, this, e5]
      · simp only [entF, e2, e6]
theorem sim_resOne {S : FuncId → Prop} {xs xs' : Array Value} (h : ArR S K R xs xs') (a : ResultVar) : Sim P S K (VA S K) (resOne xs a) R (resOne xs' a) := by
  cases a with
  | tmp t => exact Sim.ret (h.getD t vr_undef)
  | cell s ty =>
    refine Sim.bnd (sim_asAddr (h.getD s vr_undef)) ?_
    intro R1 e1 a a' ha
    exact sim_loadVar ty ha
theorem sim_resS {S : FuncId → Prop} {xs xs' : Array Value} (h : ArR S K R xs xs') : ∀ l : List ResultVar, Sim P S K (VA S K) (resS l xs) R (resS l xs')
  | [] => Sim.ret (.tuple' ArR.empty)
  | [a] => sim_resOne h a
  | [a, b] => by
    refine Sim.bnd (sim_resOne h a) ?_
    intro R1 e1 x x' hx
    refine Sim.bnd (sim_resOne (h.mono e1.le) b) ?_
    intro R2 e2 y y' hy
    exact Sim.ret (.tuple' ((ArR.one (hx.mono e2.le)).push hy))
  | _ :: _ :: _ :: _ => .inl never_stuck
theorem yielded_rel {S : FuncId → Prop} (ops : Array Oper) {xs xs' : Array Value} (h : ArR S K R xs xs') : yielded ops xs = yielded ops xs' := by
  funext j
  unfold yielded
  cases hd : (ops[j]?).bind (·.dst) with
  | none => rfl
  | some d =>
    simp only [Option.bind_some]
    cases hx : xs[d]? with
    | none => rw [h.none hx]
    | some v =>
      obtain ⟨v', e, hv⟩ := h.get hx
      rw [e]
      cases hv with
      | junk hh => cases v' <;> first | exact hh.elim | rfl
      | _ => rfl
theorem exitTo_mem {id : Nat} : ∀ {k k' : List Item}, exitTo id k = some k' → ∀ i ∈ k', i ∈ k
  | [], _, h, _, _ => by simp [exitTo] at h
  | x :: k, k', h, i, hi => by
    have tail : exitTo id k = some k' → i ∈ x :: k := fun e => by simp [exitTo_mem e i hi]
    cases x <;> simp only [exitTo] at h <;> first | exact tail h | skip
    split at h
    · cases h; simp [hi]
    · exact tail h
theorem sim_stepS (F : Fit2 P fs) (hR : RelOk P K R) {l : Bool} {m m' : Fm} {ms ms' : List Fm} (hm : FmR P fs K R m m') (hms : MsR P fs K R ms ms') (hlow : LowS P l m ms) (hstop : m.ret = true → ms ≠ []) :
    Sim P (SF fs) K (StA P fs K l) (stepS P.g m ms) R (stepS P.c m' ms') := by
  unfold stepS
  rw [← hm.ret]
  by_cases hr : m.ret = true
  · simp only [hr, if_true]
    cases hms with
    | nil => exact absurd rfl (hstop hr)
    | cons hc hw hrest =>
      rename_i c c' rest rest'
      obtain ⟨_, ops, i, r, k, hk⟩ := hw
      obtain ⟨fn, fn', e1, e2, e3, e4⟩ := hm.infs
      unfold retS
      have hk' : c'.todo = .inRegion ops (i :: r) :: k := hc.todo.symm.trans hk
      rw [← hm.fn]
      simp only [hk, hk', e1, e2]
      rw [← e3]
      refine Sim.bnd (sim_resS hm.tmps fn.results.toList) ?_
      intro R1 x1 v v' hv
      exact Sim.ret (.inl ⟨(hc.mono x1.le).fin hk hv, hrest.mono x1.le, fun e => ⟨(hlow e).2 c (by simp), fun x hx => (hlow e).2 x (by simp [hx])⟩⟩)
  · have hr0 : m.ret = false := by simpa using hr
    simp only [hr0, Bool.false_eq_true, if_false]
    have hr' : m'.ret = false := hm.ret.symm.trans hr0
    unfold runS
    rw [← hm.todo]
    have ok1 : ∀ {x y : Fm}, FmR P fs K R x y → x.fn = m.fn → Sim P (SF fs) K (StA P fs K l) (Pure.pure (x, ms)) R (Pure.pure (y, ms')) := fun h e => Sim.ret (.inl ⟨h, hms, fun z => by rw [e]; exact hlow z⟩)
    have keep : ∀ (l : List Item), (∀ i ∈ l, fitItem P.c (cls P fs m.fn) i = true) → FmR P fs K R { m with todo := l } { m' with todo := l } := fun l hl => ⟨hm.fn, rfl, hm.ret, hm.tmps, hl, hm.infs⟩
    have hfit := hm.fit
    have hmf := hm.fn
    cases htd : m.todo with
    | nil => exact ok1 ⟨hm.fn, rfl, rfl, hm.tmps, fun i hi => (by simp at hi), hm.infs⟩ rfl
    | cons x k =>
      rw [htd] at hfit
      have hk : ∀ i ∈ k, fitItem P.c (cls P fs m.fn) i = true := fun i hi => hfit i (by simp [hi])
      have hx : fitItem P.c (cls P fs m.fn) x = true := hfit x (by simp)
      have two : ∀ (y z : Item), fitItem P.c (cls P fs m.fn) y = true → fitItem P.c (cls P fs m.fn) z = true → ∀ i ∈ y :: z :: k, fitItem P.c (cls P fs m.fn) i = true := fun y z hy hz i hi => by
        simp only [List.mem_cons] at hi
        rcases hi with rfl | rfl | hi
        · exact hy
        · exact hz
        · exact hk i hi
      have one : ∀ (y : Item), fitItem P.c (cls P fs m.fn) y = true → ∀ i ∈ y :: k, fitItem P.c (cls P fs m.fn) i = true := fun y hy i hi => by
        simp only [List.mem_cons] at hi
        rcases hi with rfl | hi
        · exact hy
        · exact hk i hi
      cases x with
      | code c =>
        cases c with
        | skip => exact ok1 (keep k hk) rfl
        | label l => exact ok1 (keep k hk) rfl
        | ret => exact ok1 ⟨hm.fn, rfl, rfl, hm.tmps, hfit, hm.infs⟩ rfl
        | seq a b =>
          simp only [fitItem, fitCode, Bool.and_eq_true] at hx
          exact ok1 (keep _ (two _ _ hx.1 hx.2)) rfl
        | cond c a b =>
          simp only [fitItem, fitCode, Bool.and_eq_true] at hx
          have hv := hm.eval c (cls_fs P fs m.fn ▸ hx.1.1)
          simp only
          generalize m.eval c = v at hv ⊢
          generalize m'.eval c = v' at hv ⊢
          cases hv with
          | bool t =>
            refine ok1 (keep _ (one _ ?_)) rfl
            cases t
            · exact hx.2
            · exact hx.1.2
          | _ => exact .inl never_stuck
        | block id body => exact ok1 (keep _ (two _ _ hx rfl)) rfl
        | loop body => exact ok1 (keep _ (two _ _ hx hx)) rfl
        | scope body => exact ok1 (keep _ (two _ _ hx hx)) rfl
        | exit id =>
          simp only
          cases he : exitTo id k with
          | none => exact .inl never_stuck
          | some k' => exact ok1 (keep _ fun i hi => hk i (exitTo_mem he i hi)) rfl
        | region id ops draw =>
          simp only
          cases draw with
          | true =>
            simp only [if_true]
            rw [← hmf]
            refine Sim.bnd (sim_choose _) ?_
            rintro R1 h1 t _ rfl
            rw [F.follows]
            exact Sim.ret (.inl ⟨hmf ▸ (keep (.inRegion ops (Region.schedule (P.c.follows .mixedOrders) ops t) :: k) (one (.inRegion ops (Region.schedule (P.c.follows .mixedOrders) ops t)) hx)).mono h1.le, hms.mono h1.le, hlow⟩)
          | false =>
            simp only [Bool.false_eq_true, if_false]
            exact ok1 (keep _ (one (.inRegion ops (List.range ops.size)) hx)) rfl
        | _ => cases hx
      | inBlock id => exact ok1 (keep k hk) rfl
      | inScope c => exact ok1 (keep k hk) rfl
      | inLoop c => exact ok1 (keep _ (two _ _ hx hx)) rfl
      | inRegion ops l =>
        cases l with
        | nil => exact ok1 (keep k hk) rfl
        | cons i rest =>
          simp only
          rw [← yielded_rel ops hm.tmps]
          by_cases hw : ((ops[i]?).map (Region.wanted · (yielded ops m.tmps))).getD false = true
          · rw [if_pos hw, if_pos hw]
            cases ho : ops[i]? with
            | none => exact .inl never_stuck
            | some o =>
              simp only
              have hok : okOp P.c (cls P fs m.fn) o.op = true := by
                have hx' := Array.all_eq_true.1 hx i (Array.getElem?_eq_some_iff.1 ho).1
                rwa [(Array.getElem?_eq_some_iff.1 ho).2] at hx'
              refine Sim.bnd (sim_execOp F.toFit hR hm.eval (fun g => rfl) (fun g => rfl) (cls_fs P fs m.fn) (cls_gs F.toFit m.fn) (cls_dy F.toFit m.fn) hok) ?_
              intro R1 h1 n n' hn
              exact sim_opS F (hm.mono h1.le) (hms.mono h1.le) hlow hr0 htd hn
          · rw [if_neg hw, if_neg hw]
            exact ok1 (hm.fin htd vr_undef) rfl
      | _ => cases hx
end
end Go.Tt
