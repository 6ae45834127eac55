/-
  A frame's step under a rest of its text, deferred calls and other frames.
  THE JUDGEMENT OF A GOROUTINE IN COMPANY whose lone run is a ghost's: one frame, on whatever frames below.
  The judgement's rules: control, pieces of text, operations, calls, communications.
  The judgement's rules: calls, communications.
  THE PIPE: one goroutine sends n values over an unbuffered channel and closes it; goroutine 0 ranges over it, and waits.
-/
import Derived.Test.YtjcpjijihajopaaMt3
set_option linter.unusedSectionVars false
set_option linter.unusedSimpArgs false
set_option linter.unusedVariables false
namespace Go.Mt
open Go.Conc Go.Tt
set_option linter.unusedVariables false
set_option linter.unusedSimpArgs false
/-- What a frame bears beside its own: the deferred calls, and how it was called. -/
structure Dk where
  ds : List Deferred
  kd : CallKind
  ok : kd ≠ .early
abbrev Dk.nil : Dk := ⟨[], .normal, by simp⟩
def Dk.base (d : Dk) (fn : FuncId) : Frame := { (default : Frame) with fn := fn, kind := d.kd }
def fx (k : List Item) (d : Dk) (m : Fm) : Frame := { m.fr with todo := m.todo ++ k, defers := d.ds, kind := d.kd }
theorem fx_nil (m : Fm) : fx [] .nil m = m.fr := by unfold fx; simp [Fm.fr]
theorem runS_fx {p : Program} {main : Bool} {m m' : Fm} {ms ms' : List Fm} {w w' : World} (hr : m.ret = false) {k : List Item} (hne : m.todo = [] → k = []) (h : (runS p m ms).run p w = .ok (m', ms') w') (d : Dk) (CS : List Frame) :
    (ms' = ms ∧ stepG p main (G (fx k d m) CS) w = .go (G (fx k d m') CS) w' (seen p m.fn ((runS p m ms).events p w #[]))) ∨
    (ms' = m :: ms ∧ stepG p main (G (fx k d m) CS) w = .go (G m'.fr (fx k d m :: CS)) w' (seen p m.fn ((runS p m ms).events p w #[]))) := by
  have none0 : seen p m.fn #[] = #[] := Conc.seen_none p _
  obtain ⟨fn, tmps, todo, ret⟩ := m
  simp only at hr none0 hne ⊢
  subst hr
  unfold runS at h ⊢
  simp only at h ⊢
  split at h
  all_goals first
    | (simp [stuck, Sem.run] at h; done)
    | (obtain rfl := hne rfl
       simp only [Pure.pure, Sem.run, Result.ok.injEq, Prod.mk.injEq] at h
       obtain ⟨⟨rfl, rfl⟩, rfl⟩ := h
       refine .inl ⟨rfl, ?_⟩
       simp [G, stepG, stepG.exec, Fm.fr, fx, none0, GStep.after]
       done)
    | (simp only [Pure.pure, Sem.run, Result.ok.injEq, Prod.mk.injEq] at h
       obtain ⟨⟨rfl, rfl⟩, rfl⟩ := h
       refine .inl ⟨rfl, ?_⟩
       simp [G, stepG, stepG.exec, Fm.fr, fx, none0, GStep.after]
       done)
    | skip
  case h_8 _ c a b k0 =>
    generalize hv : Fm.eval { fn := fn, tmps := tmps, todo := Item.code (Code.cond c a b) :: k0, ret := false } c = v at h ⊢
    have hc : Frame.eval { fn := fn, tmps := tmps, todo := Item.code (Code.cond c a b) :: (k0 ++ k), defers := d.ds, mode := .run, kind := d.kd } c = v := by rw [← hv]; cases c <;> rfl
    cases v with
    | bool t =>
      simp only [Pure.pure, Sem.run, Result.ok.injEq, Prod.mk.injEq] at h
      obtain ⟨⟨rfl, rfl⟩, rfl⟩ := h
      refine .inl ⟨rfl, ?_⟩
      simp [G, stepG, stepG.exec, Fm.fr, fx, none0, hc]
    | _ => simp [stuck, Sem.run] at h
  case h_13 _ id k0 =>
    cases he : exitTo id k0 with
    | some k' =>
      rw [he] at h
      simp only [Pure.pure, Sem.run, Result.ok.injEq, Prod.mk.injEq] at h
      obtain ⟨⟨rfl, rfl⟩, rfl⟩ := h
      refine .inl ⟨rfl, ?_⟩
      simp [G, stepG, stepG.exec, Fm.fr, fx, none0, exitTo_app k he]
    | none => rw [he] at h; simp [stuck, Sem.run] at h
  case h_14 _ id ops draw k0 =>
    cases draw with
    | true =>
      simp [choose, Sem.run, Question.forced, Question.cut, bind, Sem.bind, pure] at h
      obtain ⟨⟨rfl, rfl⟩, rfl⟩ := h
      refine .inl ⟨rfl, ?_⟩
      simp [G, stepG, stepG.exec, Fm.fr, fx, none0, choose, Sem.run, Question.forced, Question.cut, Sem.events, Sem.runT, bind, Sem.bind, pure]
    | false =>
      simp only [Bool.false_eq_true, if_false, Pure.pure, Sem.run, Result.ok.injEq, Prod.mk.injEq] at h
      obtain ⟨⟨rfl, rfl⟩, rfl⟩ := h
      refine .inl ⟨rfl, ?_⟩
      simp [G, stepG, stepG.exec, Fm.fr, fx, none0]
  case h_16 _ ops i rest k0 =>
    have hae : ∀ x, Act.eval ⟨tmps, d.ds⟩ x = Fm.eval { fn := fn, tmps := tmps, todo := Item.inRegion ops (i :: rest) :: k0, ret := false } x := fun x => by cases x <;> rfl
    have hae' : Act.eval ⟨tmps, d.ds⟩ = Fm.eval { fn := fn, tmps := tmps, todo := Item.inRegion ops (i :: rest) :: k0, ret := false } := funext hae
    have hfin : ∀ v, (d.base fn).at (Act.put ⟨tmps, d.ds⟩ ((ops[i]?).bind (·.dst)) v) (.inRegion ops rest :: (k0 ++ k)) = fx k d (Fm.fin { fn := fn, tmps := tmps, todo := Item.inRegion ops (i :: rest) :: k0, ret := false } ops i rest k0 v) := fun v => by
      unfold Fm.fin Act.put fx
      cases (ops[i]?).bind (·.dst) <;> rfl
    have hb : (d.base fn).kind ≠ .early := d.ok
    have hfx : fx k d { fn := fn, tmps := tmps, todo := Item.inRegion ops (i :: rest) :: k0, ret := false } = (d.base fn).at ⟨tmps, d.ds⟩ (.inRegion ops (i :: rest) :: (k0 ++ k)) := rfl
    rw [hfx]
    cases ho : ops[i]? with
    | none =>
      rw [ho] at h
      simp only [Option.map_none, Option.getD_none, Bool.false_eq_true, if_false, Pure.pure, Sem.run, Result.ok.injEq, Prod.mk.injEq] at h
      obtain ⟨⟨rfl, rfl⟩, rfl⟩ := h
      refine .inl ⟨rfl, ?_⟩
      rw [← hfin undef]
      have hff : ((d.base fn).at ⟨tmps, d.ds⟩ (.inRegion ops (i :: rest) :: (k0 ++ k))).finish undef = (d.base fn).at (Act.put ⟨tmps, d.ds⟩ ((ops[i]?).bind (·.dst)) undef) (.inRegion ops rest :: (k0 ++ k)) := Frame.finish_at _ _ _ _ _ _ _
      rw [← hff]
      simp [G, stepG, stepG.exec, none0, ho, Frame.at]
    | some o =>
      rw [ho] at h
      simp only [ho, Option.bind_some] at hfin
      simp only [Option.map_some, Option.getD_some] at h ⊢
      by_cases hw : Region.wanted o (yielded ops tmps) = true
      · rw [if_pos hw] at h
        rw [if_pos hw]
        have hrb := Sem.run_bind' p (execOp (Fm.eval { fn := fn, tmps := tmps, todo := Item.inRegion ops (i :: rest) :: k0, ret := false }) o) (opS p { fn := fn, tmps := tmps, todo := Item.inRegion ops (i :: rest) :: k0, ret := false } ms ops i rest k0) w
        have h' := hrb.symm.trans h
        have hevb := Sem.events_bind' p (execOp (Fm.eval { fn := fn, tmps := tmps, todo := Item.inRegion ops (i :: rest) :: k0, ret := false }) o) (opS p { fn := fn, tmps := tmps, todo := Item.inRegion ops (i :: rest) :: k0, ret := false } ms ops i rest k0) w #[]
        cases hx : (execOp (Fm.eval { fn := fn, tmps := tmps, todo := Item.inRegion ops (i :: rest) :: k0, ret := false }) o).run p w with
        | halt y w1 => rw [hx] at h'; cases h'
        | ok n w1 =>
          rw [hx] at h' hevb
          have hx' : (execOp (Act.eval ⟨tmps, d.ds⟩) o).run p w = .ok n w1 := by rw [hae']; exact hx
          have hl : Conc.listed p fn ⟨tmps, d.ds⟩ o w = seen p fn ((execOp (Fm.eval { fn := fn, tmps := tmps, todo := Item.inRegion ops (i :: rest) :: k0, ret := false }) o).events p w #[]) := by unfold Conc.listed; rw [hae']
          have h2 : (opS p { fn := fn, tmps := tmps, todo := Item.inRegion ops (i :: rest) :: k0, ret := false } ms ops i rest k0 n).run p w1 = .ok (m', ms') w' := h'
          have fine : ∀ (r : Fm × List Fm), opS p { fn := fn, tmps := tmps, todo := Item.inRegion ops (i :: rest) :: k0, ret := false } ms ops i rest k0 n = Pure.pure r →
              (m', ms') = r ∧ w' = w1 ∧ seen p fn ((do let n ← execOp (Fm.eval { fn := fn, tmps := tmps, todo := Item.inRegion ops (i :: rest) :: k0, ret := false }) o; opS p { fn := fn, tmps := tmps, todo := Item.inRegion ops (i :: rest) :: k0, ret := false } ms ops i rest k0 n : Sem (Fm × List Fm)).events p w #[]) = Conc.listed p fn ⟨tmps, d.ds⟩ o w := fun r e => by
            rw [e] at h2
            simp only [Pure.pure, Sem.run, Result.ok.injEq] at h2
            refine ⟨h2.1.symm, h2.2.symm, ?_⟩
            rw [hl]
            congr 1
            refine hevb.trans ?_
            rw [Result.evThen_ok, e]; rfl
          cases n with
          | value v =>
            obtain ⟨e1, rfl, e3⟩ := fine _ rfl
            injection e1 with e1 e2
            subst e1 e2
            refine .inl ⟨rfl, ?_⟩
            rw [e3]
            have := Conc.stepG_value (main := main) (b := d.base fn) (a := ⟨tmps, d.ds⟩) (rest := rest) (k := k0 ++ k) (cs := CS) ho hw hb hx'
            rw [hfin] at this
            exact this
          | skip =>
            obtain ⟨e1, rfl, e3⟩ := fine _ rfl
            injection e1 with e1 e2
            subst e1 e2
            refine .inl ⟨rfl, ?_⟩
            rw [e3]
            have := Conc.stepG_none (main := main) (b := d.base fn) (a := ⟨tmps, d.ds⟩) (rest := rest) (k := k0 ++ k) (cs := CS) ho hw hb hx'
            rw [hfin] at this
            exact this
          | enter f args =>
            have h3 := h2
            simp only [opS] at h3
            cases hf : p.funcs[f]? with
            | none => rw [hf] at h3; simp [stuck, Sem.run] at h3
            | some fn2 =>
              cases hbd : fn2.body with
              | none => rw [hf] at h3; simp only [hbd] at h3; simp [stuck, Sem.run] at h3
              | some c =>
                obtain ⟨e1, rfl, e3⟩ := fine _ (by simp only [opS, hf, hbd]; rfl)
                injection e1 with e1 e2
                subst e1 e2
                refine .inr ⟨rfl, ?_⟩
                rw [e3]
                have := Conc.stepG_enter (main := main) (b := d.base fn) (a := ⟨tmps, d.ds⟩) (rest := rest) (k := k0 ++ k) (cs := CS) ho hw hb hx'
                rw [enter_fr hf hbd] at this
                exact this
          | _ => simp [opS, stuck, Sem.run] at h2
      · rw [if_neg hw] at h
        rw [if_neg hw]
        simp only [Pure.pure, Sem.run, Result.ok.injEq, Prod.mk.injEq] at h
        obtain ⟨⟨rfl, rfl⟩, rfl⟩ := h
        refine .inl ⟨rfl, ?_⟩
        have := Conc.stepG_unwanted (P := p) (main := main) (b := d.base fn) (a := ⟨tmps, d.ds⟩) (rest := rest) (k := k0 ++ k) (cs := CS) (w := w) ho (by simpa using hw)
        rw [hfin] at this
        rw [show seen p fn (Sem.events p (Pure.pure (Fm.fin { fn := fn, tmps := tmps, todo := Item.inRegion ops (i :: rest) :: k0, ret := false } ops i rest k0 undef, ms) : Sem (Fm × List Fm)) w #[]) = #[] from none0]
        exact this
/-- The way back. -/
theorem retS_fx {p : Program} {main : Bool} {m c m' : Fm} {rest ms' : List Fm} {w w' : World} (hr : m.ret = true) (hc : c.ret = false) (h : (retS p m (c :: rest)).run p w = .ok (m', ms') w') (k : List Item) (d : Dk) (CS : List Frame) :
    ms' = rest ∧ w' = w ∧ (∃ ops i r k0 v, c.todo = .inRegion ops (i :: r) :: k0 ∧ m' = c.fin ops i r k0 v) ∧ stepG p main (G m.fr (fx k d c :: CS)) w = .go (G (fx k d m') CS) w' (seen p m.fn ((retS p m (c :: rest)).events p w #[])) := by
  obtain ⟨ops, i, r, k0, v, fn, hct, hf, hv, rfl, rfl⟩ := retS_inv h
  obtain ⟨rfl, _⟩ := tf_resS _ _ w v w' hv
  refine ⟨rfl, rfl, ⟨ops, i, r, k0, v, hct, rfl⟩, ?_⟩
  rw [(retS_mk hct hf hv).2]
  have he : results fn m.tmps = resS fn.results.toList m.tmps := results_resS (resS_plain hv)
  have hfin : (fx k d c).finish v = fx k d (c.fin ops i r k0 v) := by
    simp only [Frame.finish, fx, Fm.fr, Fm.fin, hct, List.cons_append]
    cases (ops[i]?).bind (·.dst) <;> rfl
  rw [Fm.fr_ret hr, ← hfin]
  simp [G, stepG, unwind, doReturn, hf, he, hv, GStep.after]
/-- The frames below the top one: the lowest has the rest k and the deferred calls d. -/
def low (k : List Item) (d : Dk) : Fm → List Fm → List Frame
  | c, [] => [fx k d c]
  | c, e :: cs => c.fr :: low k d e cs
def stk (k : List Item) (d : Dk) (base : List Frame) (m : Fm) : List Fm → Goroutine
  | [] => G (fx k d m) base
  | c :: cs => G m.fr (low k d c cs ++ base)
theorem stk_status (k : List Item) (d : Dk) (base : List Frame) (m : Fm) (ms : List Fm) : (stk k d base m ms).status = .running := by cases ms <;> rfl
theorem stk_step {p : Program} {main : Bool} {m m' : Fm} {ms ms' : List Fm} {w w' : World} {k : List Item} {d : Dk} {base : List Frame} (hs : m.ret = true → ms ≠ []) (hne : ms = [] → m.ret = false → m.todo ≠ []) (hw : ∀ c ∈ ms, c.ret = false)
    (h : (stepS p m ms).run p w = .ok (m', ms') w') : ∃ es, stepG p main (stk k d base m ms) w = .go (stk k d base m' ms') w' es ∧ ∀ e ∈ es, e ∈ seen p m.fn ((stepS p m ms).events p w #[]) := by
  cases hr : m.ret with
  | false =>
    simp only [stepS, hr, Bool.false_eq_true, if_false] at h ⊢
    cases ms with
    | nil =>
      rcases runS_fx (main := main) hr (k := k) (fun e => absurd e (hne rfl hr)) h d base with ⟨rfl, e⟩ | ⟨rfl, e⟩
      · exact ⟨_, e, fun _ x => x⟩
      · exact ⟨_, e, fun _ x => x⟩
    | cons c cs =>
      rcases runS_fx (main := main) hr (k := []) (fun _ => rfl) h .nil (low k d c cs ++ base) with ⟨rfl, e⟩ | ⟨rfl, e⟩
      · simp only [fx_nil] at e
        exact ⟨_, e, fun _ x => x⟩
      · simp only [fx_nil] at e
        exact ⟨_, e, fun _ x => x⟩
  | true =>
    simp only [stepS, hr, if_true] at h ⊢
    cases ms with
    | nil => exact absurd rfl (hs hr)
    | cons c cs =>
      have hcr := hw c (List.mem_cons_self ..)
      cases cs with
      | nil =>
        obtain ⟨rfl, rfl, _, e⟩ := retS_fx (main := main) hr hcr h k d base
        exact ⟨_, e, fun _ x => x⟩
      | cons c2 cs =>
        obtain ⟨rfl, rfl, _, e⟩ := retS_fx (main := main) hr hcr h [] .nil (low k d c2 cs ++ base)
        simp only [fx_nil] at e
        exact ⟨_, e, fun _ x => x⟩
/-! ### slots that a text leaves alone -/
def codeNo (S : List Nat) : Code → Bool
  | .skip | .ret | .exit _ | .label _ => true
  | .region _ ops _ => ops.all fun o => match o.dst with | some s => !S.contains s | none => true
  | .seq a b => codeNo S a && codeNo S b
  | .cond _ a b => codeNo S a && codeNo S b
  | .block _ c | .loop c | .scope c => codeNo S c
  | _ => false
def itemNo (S : List Nat) : Item → Bool
  | .code c | .inLoop c | .inScope c => codeNo S c
  | .inBlock _ => true
  | .inRegion ops _ => ops.all fun o => match o.dst with | some s => !S.contains s | none => true
  | _ => false
def lastOf : Fm → List Fm → Fm
  | m, [] => m
  | _, c :: cs => lastOf c cs
/-- The pinned slots stand. -/
structure Pins (S : List Nat) (m m' : Fm) : Prop where
  no : ∀ i ∈ m'.todo, itemNo S i = true
  at_ : ∀ s ∈ S, m'.tmps.getD s undef = m.tmps.getD s undef
theorem fin_pins {S : List Nat} {m : Fm} {ops : Array Oper} {i : Nat} {rest : List Nat} {k : List Item} (h : m.todo = .inRegion ops (i :: rest) :: k) (hn : ∀ i ∈ m.todo, itemNo S i = true) (v : Value) : Pins S m (m.fin ops i rest k v) := by
  have hx := hn (.inRegion ops (i :: rest)) (by rw [h]; exact List.mem_cons_self ..)
  refine ⟨fun j hj => ?_, fun s hs => ?_⟩
  · simp only [Fm.fin, List.mem_cons] at hj
    rcases hj with rfl | hj
    · exact hx
    · exact hn j (by rw [h]; exact List.mem_cons_of_mem _ hj)
  · unfold Fm.fin
    simp only
    cases hd : (ops[i]?).bind (·.dst) with
    | none => rfl
    | some q =>
      obtain ⟨o, ho, hq⟩ := Option.bind_eq_some_iff.1 hd
      simp only [itemNo, Array.all_eq_true_iff_forall_mem] at hx
      have h1 := hx o (Array.mem_of_getElem? ho)
      rw [hq] at h1
      simp only [Bool.not_eq_true', List.contains_eq_mem, decide_eq_false_iff_not] at h1
      have hne : q ≠ s := fun e => h1 (e ▸ hs)
      simp only [Array.getD_eq_getD_getElem?, Array.getElem?_setIfInBounds_ne hne]
theorem exitTo_no {S : List Nat} {id : Nat} {k k' : List Item} (h : exitTo id k = some k') (hn : ∀ i ∈ k, itemNo S i = true) : ∀ i ∈ k', itemNo S i = true := fun i hi => hn i (exitTo_mem h i hi)
theorem runS_pins {p : Program} {S : List Nat} {m m' : Fm} {ms ms' : List Fm} {w w' : World} (hn : ∀ i ∈ m.todo, itemNo S i = true) (h : (runS p m ms).run p w = .ok (m', ms') w') : (ms' = ms ∧ Pins S m m') ∨ ms' = m :: ms := by
  obtain ⟨fn, tmps, todo, ret⟩ := m
  simp only at hn
  unfold runS at h
  simp only at h
  split at h
  all_goals first
    | (simp [stuck, Sem.run] at h; done)
    | (simp only [Pure.pure, Sem.run, Result.ok.injEq, Prod.mk.injEq] at h
       obtain ⟨⟨rfl, rfl⟩, rfl⟩ := h
       refine .inl ⟨rfl, ⟨?_, fun _ _ => rfl⟩⟩
       simp only [List.mem_cons, forall_eq_or_imp, itemNo, codeNo, Bool.and_eq_true] at hn ⊢
       grind)
    | skip
  case h_8 _ c a b k0 =>
    split at h
    · simp only [Pure.pure, Sem.run, Result.ok.injEq, Prod.mk.injEq] at h
      obtain ⟨⟨rfl, rfl⟩, rfl⟩ := h
      refine .inl ⟨rfl, ⟨?_, fun _ _ => rfl⟩⟩
      simp only [List.mem_cons, forall_eq_or_imp, itemNo, codeNo, Bool.and_eq_true] at hn ⊢
      refine ⟨?_, hn.2⟩
      split
      · exact hn.1.1
      · exact hn.1.2
    · simp [stuck, Sem.run] at h
  case h_13 _ id k0 =>
    split at h
    · next k' he =>
      simp only [Pure.pure, Sem.run, Result.ok.injEq, Prod.mk.injEq] at h
      obtain ⟨⟨rfl, rfl⟩, rfl⟩ := h
      refine .inl ⟨rfl, ⟨exitTo_no he fun i hi => hn i (List.mem_cons_of_mem _ hi), fun _ _ => rfl⟩⟩
    · simp [stuck, Sem.run] at h
  case h_14 _ id ops draw k0 =>
    cases draw with
    | true =>
      simp only [if_true] at h
      have h2 := (Sem.run_bind' p (choose (.order fn id)) _ w).symm.trans h
      cases hc : (choose (.order fn id)).run p w with
      | ok t w2 =>
        rw [hc] at h2
        simp only [Result.andThen, Pure.pure, Sem.run, Result.ok.injEq, Prod.mk.injEq] at h2
        obtain ⟨⟨rfl, rfl⟩, rfl⟩ := h2
        refine .inl ⟨rfl, ⟨?_, fun _ _ => rfl⟩⟩
        simp only [List.mem_cons, forall_eq_or_imp, itemNo, codeNo] at hn ⊢
        exact hn
      | halt y w2 => rw [hc] at h2; cases h2
    | false =>
      simp only [Bool.false_eq_true, if_false, Pure.pure, Sem.run, Result.ok.injEq, Prod.mk.injEq] at h
      obtain ⟨⟨rfl, rfl⟩, rfl⟩ := h
      refine .inl ⟨rfl, ⟨?_, fun _ _ => rfl⟩⟩
      simp only [List.mem_cons, forall_eq_or_imp, itemNo, codeNo] at hn ⊢
      exact hn
  case h_16 _ ops i rest k0 =>
    have hfin := fun v => fin_pins (S := S) (m := ⟨fn, tmps, .inRegion ops (i :: rest) :: k0, ret⟩) rfl hn v
    split at h
    · split at h
      · next o ho =>
        have h2 := (Sem.run_bind' p _ _ w).symm.trans h
        cases hc : (execOp (Fm.eval { fn := fn, tmps := tmps, todo := Item.inRegion ops (i :: rest) :: k0, ret := ret }) o).run p w with
        | halt y w2 => rw [hc] at h2; cases h2
        | ok n w2 =>
          rw [hc] at h2
          simp only [Result.andThen] at h2
          cases n with
          | value v =>
            simp only [opS, Pure.pure, Sem.run, Result.ok.injEq, Prod.mk.injEq] at h2
            obtain ⟨⟨rfl, rfl⟩, rfl⟩ := h2
            exact .inl ⟨rfl, hfin v⟩
          | skip =>
            simp only [opS, Pure.pure, Sem.run, Result.ok.injEq, Prod.mk.injEq] at h2
            obtain ⟨⟨rfl, rfl⟩, rfl⟩ := h2
            exact .inl ⟨rfl, hfin undef⟩
          | enter f args =>
            simp only [opS] at h2
            split at h2
            · split at h2
              · simp only [Pure.pure, Sem.run, Result.ok.injEq, Prod.mk.injEq] at h2
                obtain ⟨⟨rfl, rfl⟩, rfl⟩ := h2
                exact .inr rfl
              · simp [stuck, Sem.run] at h2
            · simp [stuck, Sem.run] at h2
          | _ => simp [opS, stuck, Sem.run] at h2
      · simp [stuck, Sem.run] at h
    · simp only [Pure.pure, Sem.run, Result.ok.injEq, Prod.mk.injEq] at h
      obtain ⟨⟨rfl, rfl⟩, rfl⟩ := h
      exact .inl ⟨rfl, hfin undef⟩
theorem Pins.refl {S : List Nat} {m : Fm} (h : ∀ i ∈ m.todo, itemNo S i = true) : Pins S m m := ⟨h, fun _ _ => rfl⟩
theorem stepS_pins {p : Program} {S : List Nat} {m m' : Fm} {ms ms' : List Fm} {w w' : World} (hn : ∀ i ∈ (lastOf m ms).todo, itemNo S i = true) (h : (stepS p m ms).run p w = .ok (m', ms') w') : Pins S (lastOf m ms) (lastOf m' ms') := by
  cases hr : m.ret with
  | false =>
    simp only [stepS, hr, Bool.false_eq_true, if_false] at h
    cases ms with
    | nil =>
      rcases runS_pins (S := S) hn h with ⟨rfl, e⟩ | rfl
      · exact e
      · exact Pins.refl hn
    | cons c cs =>
      rcases runS_fn h with ⟨rfl, _⟩ | rfl
      · exact Pins.refl hn
      · exact Pins.refl hn
  | true =>
    simp only [stepS, hr, if_true] at h
    cases ms with
    | nil => simp [retS, stuck, Sem.run] at h
    | cons c cs =>
      obtain ⟨ops, i, r, k0, v, fn, hct, hf, hv, rfl, rfl⟩ := retS_inv h
      cases ms' with
      | nil => exact fin_pins hct hn v
      | cons d ds => exact Pins.refl hn
end Go.Mt
namespace Go.Mt
open Go.Conc Go.Tt
open Go.ConcR (KK wgBlock WgAt stA smA rd wr)
set_option linter.unusedVariables false
structure Cx (L : Type) where
  p : Program
  gs : FuncId → Bool
  fs : FuncId → Bool
  ty : TypeId
  Wg : Nat
  A : Proto L
  Fin : Goroutine → World → Prop
  main : Bool
  base : List Frame
  ds : Dk
  K : Pr
  St : Nat → Prop
  I : Pr → Terr → World → Prop
  pin : List (Nat × Value)
variable {L : Type}
abbrev Cx.P (C : Cx L) : Pair := PS C.p C.gs
abbrev Cx.Rel (C : Cx L) (R : Pr) (w W : World) : Prop := WRel (SF C.fs) C.K R C.p.globals.size C.St w W
abbrev Cx.B (C : Cx L) (l : L) (τ : Terr) (g : Goroutine) (w : World) : Prop := BehE C.p C.ty C.Wg C.A C.Fin C.main (.usr l) 0 τ g w
abbrev Cx.S (C : Cx L) : List Nat := C.pin.map (·.1)
/-- The ghost's frame and the real one. -/
structure FmW (C : Cx L) (R : Pr) (m m' : Fm) : Prop where
  fn : m.fn = m'.fn
  todo : m.todo = m'.todo
  ret : m.ret = m'.ret
  tmps : ArR (SF C.fs) C.K R m.tmps m'.tmps
  pins : ∀ x ∈ C.pin, m'.tmps.getD x.1 undef = x.2
/-- What a piece of the ghost's run does to the real world. -/
structure Rs (St : Nat → Prop) (R : Pr) (W : World) (R1 : Pr) (W1 : World) : Prop where
  le : R.le R1
  tape : W1.tape = W.tape
  os : W1.os = W.os
  output : W1.output = W.output
  size : W.heap.size ≤ W1.heap.size
  new : ∀ a b, R1 a b → R a b ∨ (W.heap.size ≤ b ∧ b < W1.heap.size)
  keep : ∀ b, b < W.heap.size → (∀ a, R a b → St a) → W1.heap[b]? = W.heap[b]?
structure IOk (C : Cx L) : Prop where
  suf : ∀ R τ W W₁, C.I R τ W → Suf C.ty C.Wg τ W W₁ → C.I R τ W₁
  step : ∀ R τ W R1 W1, C.I R τ W → Terra τ R C.St → Rs C.St R W R1 W1 → C.I R1 (τ.grow W W1) W1
  wg : ∀ R τ W, C.I R τ W → ¬ τ.own C.Wg ∧ C.Wg < W.heap.size
/-- THE JUDGEMENT. -/
def BO (C : Cx L) (l : L) (m : Fm) (w : World) : Prop :=
  ∀ (R : Pr) (W : World) (m' : Fm) (τ : Terr), C.Rel R w W → FmW C R m m' → Terra τ R C.St → C.I R τ W → C.B l τ (G (fx [] C.ds m') C.base) W
section
variable {C : Cx L} {l : L}
theorem BO.tape {m : Fm} {w : World} (h : BO C l m w) (T : Tape) (e : Nat) : BO C l m (Tt.tp w T e) :=
  fun R W m' τ a b c d => h R W m' τ a.untp b c d
theorem BO.untape {m : Fm} {w : World} {T : Tape} {e : Nat} (h : BO C l m (Tt.tp w T e)) : BO C l m w :=
  fun R W m' τ a b c d => h R W m' τ ⟨a.inj, a.inj', a.lt, a.low, a.gle, a.cont, a.rest, a.st, a.np⟩ b c d
theorem lastFn_eq (m : Fm) (ms : List Fm) : lastFn m ms = (lastOf m ms).fn := by
  induction ms generalizing m with
  | nil => rfl
  | cons c cs ih => exact ih c
theorem MsR.wait {P : Pair} {fs : FuncId → Bool} {K R : Pr} {ms ms' : List Fm} (h : MsR P fs K R ms ms') : ∀ c ∈ ms', c.ret = false := by
  induction h with
  | nil => intro c hc; cases hc
  | cons a b _ ih =>
    intro c hc
    rcases List.mem_cons.1 hc with rfl | hc
    · exact a.ret.symm.trans b.1
    · exact ih c hc
theorem fr_lastOf {P : Pair} {fs : FuncId → Bool} {K R : Pr} {m m' : Fm} {ms ms' : List Fm} (hm : FmR P fs K R m m') (hms : MsR P fs K R ms ms') : FmR P fs K R (lastOf m ms) (lastOf m' ms') := by
  induction hms generalizing m m' with
  | nil => exact hm
  | cons a b _ ih => exact ih a
/-- A TREE OF THE GHOST'S under a rest of the text. -/
theorem tree_beh (F : Fit3 C.P C.fs) (hI : IOk C) {k : List Item} {Q : Fm → World → Prop} {fn0 : FuncId} {m : Fm} {ms : List Fm} {w : World} (h : Tt.LT C.p Q m ms w)
    (hn : ∀ (x : Fm) (wT : World), x.fn = fn0 → x.ret = false → x.todo = [] → (∀ T, Q { x with ret := true } (Tt.tp wT T 0)) → BO C l ⟨fn0, x.tmps, k, false⟩ wT)
    (hr : ∀ (x : Fm) (wT : World), x.fn = fn0 → x.ret = true → x.todo ≠ [] → Q x wT → BO C l ⟨fn0, x.tmps, x.todo ++ k, true⟩ wT) :
    ∀ (R : Pr) (W : World) (m' : Fm) (ms' : List Fm) (τ : Terr), lastFn m ms = fn0 → (ms = [] → m.ret = true → m.todo ≠ []) → C.Rel R w W → FmR C.P C.fs C.K R m m' → MsR C.P C.fs C.K R ms ms' → Terra τ R C.St → C.I R τ W →
      (∀ x ∈ C.pin, (lastOf m' ms').tmps.getD x.1 undef = x.2) → (∀ i ∈ (lastOf m' ms').todo, itemNo C.S i = true) → C.B l τ (stk k C.ds C.base m' ms') W := by
  induction h with
  | stop h1 h2 =>
    rename_i m w
    intro R W m' ms' τ hl hz hw hm hms ht hi hpin hno
    cases hms
    have hB := hr m w hl h1 (hz rfl h1) h2 R W { m' with todo := m'.todo ++ k } τ hw ⟨(hl.symm.trans hm.fn : _), by show m.todo ++ k = _; rw [hm.todo], h1.symm.trans hm.ret, hm.tmps, hpin⟩ ht hi
    have : fx [] C.ds { m' with todo := m'.todo ++ k } = fx k C.ds m' := by unfold fx; simp [Fm.fr]
    rw [this] at hB
    exact hB
  | step nx hs hrun hlt ih =>
    rename_i m ms w
    intro R W m' ms' τ hl hz hw hm hms ht hi hpin hno
    by_cases hend : ms = [] ∧ m.ret = false ∧ m.todo = []
    · obtain ⟨rfl, h1, h2⟩ := hend
      cases hms
      have hQ : ∀ T, Q { m with ret := true } (Tt.tp w T 0) := fun T => by
        have hT := hrun T
        have e : (stepS C.p m []).run C.p (Tt.tp w T 0) = .ok ({ m with ret := true }, []) (Tt.tp w T 0) := by simp [stepS, h1, runS, h2, Pure.pure, Sem.run]
        rw [e] at hT
        injection hT with e1 e2
        have hl := hlt T
        rw [← e1, ← e2] at hl
        exact hl.ret_inv rfl
      have hB := hn m w hl h1 h2 hQ R W { m' with todo := m'.todo ++ k } τ hw ⟨(hl.symm.trans hm.fn : _), by show k = m'.todo ++ k; rw [← hm.todo, h2]; rfl, h1.symm.trans hm.ret, hm.tmps, hpin⟩ ht hi
      have : fx [] C.ds { m' with todo := m'.todo ++ k } = fx k C.ds m' := by unfold fx; simp [Fm.fr]
      rw [this] at hB
      exact hB
    · refine BehE.own (stk_status ..) trivial fun W₁ s => ?_
      have hw₁ := wrel_suf hw ht (fun a b x => (hw.lt a b (.inr x)).2) s
      have hi₁ := hI.suf _ _ _ _ hi s
      let T : Tape := fun n q => W₁.tape (W₁.drawn + n) q
      have hw₂ : C.Rel R (Tt.tp w T 0) W₁ := ⟨hw₁.inj, hw₁.inj', hw₁.lt, hw₁.low, hw₁.gle, hw₁.cont, hw₁.rest, hw₁.st, hw₁.np⟩
      have htp : Tp (Tt.tp w T 0) W₁ := fun n q => by show W₁.tape (W₁.drawn + (0 + n)) q = _; rw [Nat.zero_add]
      have hrel : RelS C.P C.fs C.K C.p.globals.size C.St m ms (Tt.tp w T 0) := ⟨R, W₁, m', ms', hw₂, hm, hms⟩
      obtain ⟨R1, x', W1, ev, e1, e2, e3, e4, e5⟩ := Sim.run rfl _ (sim_stepS (l := false) F.toFit2 (hw₂.relOk rfl) hm hms (fun e => by cases e) hs) hw₂ htp (hrun T)
      replace e2 := e2.resolve_right fun x => by
        obtain ⟨f, _, _, _, _, _, _, ho, _⟩ := x.2
        rw [F.none] at ho; cases ho
      obtain ⟨m1', ms1'⟩ := x'
      have hs' : m'.ret = true → ms' ≠ [] := fun e e2 => hs (hm.ret.trans e) (by cases hms with | nil => rfl | cons _ _ _ => cases e2)
      have hne' : ms' = [] → m'.ret = false → m'.todo ≠ [] := fun a b c => hend ⟨(by cases hms with | nil => rfl | cons _ _ _ => cases a), hm.ret.trans b, hm.todo.trans c⟩
      obtain ⟨es, hst, hes⟩ := stk_step (main := C.main) (k := k) (d := C.ds) (base := C.base) hs' hne' (MsR.wait hms) e1
      have hpn := stepS_pins (S := C.S) hno e1
      have hev : (stepS C.p m' ms').events C.p W₁ #[] = ev := by rw [e4]; simp
      have hsub : ∀ e ∈ es, EvOk R1 C.St e := fun e he => by
        have := hes e he
        rw [hev] at this
        exact e5 e (mem_seen this)
      have hsz : W₁.heap.size ≤ W1.heap.size := e3.size.2
      have hnew : ∀ a b, R1 a b → R a b ∨ (W₁.heap.size ≤ b ∧ b < W1.heap.size) := fun a b x => by
        rcases e3.new a b x with y | ⟨_, y⟩
        · exact .inl y
        · exact .inr ⟨y, (e3.rel.ltR a b x).2⟩
      have ht1 : Terra (τ.grow W₁ W1) R1 C.St := fun a b x => by
        rcases e3.new a b x with y | ⟨y1, y2⟩
        · exact ⟨(ht a b y).1, fun z => .inl ((ht a b y).2 z)⟩
        · refine ⟨fun z => ?_, fun _ => .inr ⟨y2, (e3.rel.ltR a b x).2⟩⟩
          obtain ⟨⟨b', hb'⟩, _⟩ := hw₂.st a z
          have := (hw₂.ltR a b' hb').1
          omega
      have hg : Gua τ.own W₁ W1 := ⟨e3.tape.2, e3.os.2, e3.out.2, hsz, fun b hb hno => e3.keep b hb fun a x => Classical.byContradiction fun z => hno ((ht a b x).2 z)⟩
      have hi1 := hI.step R τ W₁ R1 W1 hi₁ ht ⟨e3.le, e3.tape.2, e3.os.2, e3.out.2, hsz, hnew, e3.keep⟩
      refine ⟨_, W1, _, hst, stk_status .., hg, fun e he => evT_of_evOk (hsub e he) ht1, ?_⟩
      rw [deafBehind_still (fun e he => evOk_quiet (hsub e he))]
      have hlf : lastFn (nx T).1.1 (nx T).1.2 = fn0 := (stepS_lastFn (m1 := (nx T).1.1) (ms1 := (nx T).1.2) (hrun T)).trans hl
      refine ih T R1 W1 m1' ms1' (τ.grow W₁ W1) hlf (fun a b c => ?_) e3.rel e2.1 e2.2.1 ht1 hi1 (fun x hx => (hpn.at_ x.1 (List.mem_map_of_mem hx)).trans (hpin x hx)) hpn.no
      -- the lowest frame has come to its return: by 'ret'
      have hT := hrun T
      cases ms with
      | nil =>
        cases hr1 : m.ret with
        | true => exact hs hr1 rfl
        | false =>
          simp only [stepS, hr1, Bool.false_eq_true, if_false] at hT
          exact runS_ret hT b hr1 (fun e => hend ⟨rfl, hr1, e⟩) c
      | cons c0 cs =>
        cases hr1 : m.ret with
        | true =>
          simp only [stepS, hr1, if_true] at hT
          obtain ⟨ops, i, r, k0, v, fn, hc, hf, hv, h1, h2⟩ := retS_inv (m1 := (nx T).1.1) (ms1 := (nx T).1.2) hT
          rw [h1] at c
          simp [Fm.fin] at c
        | false =>
          simp only [stepS, hr1, Bool.false_eq_true, if_false] at hT
          rcases runS_fn hT with ⟨e, _⟩ | e
          · rw [a] at e; cases e
          · rw [a] at e; cases e
end
end Go.Mt
namespace Go.Mt
open Go.Conc Go.Tt
open Go.ConcR (KK wgBlock WgAt stA smA rd wr)
set_option linter.unusedVariables false
section
variable {L : Type} {C : Cx L} {l : L}
theorem fx_at (d : Dk) (fn : FuncId) (tmps : Array Value) (todo : List Item) : fx [] d ⟨fn, tmps, todo, false⟩ = (d.base fn).at ⟨tmps, d.ds⟩ todo := by
  unfold fx; simp [Fm.fr, Dk.base, Frame.at]
theorem fx_ret (d : Dk) (fn : FuncId) (tmps : Array Value) (todo : List Item) : fx [] d ⟨fn, tmps, todo, true⟩ = { (d.base fn).at ⟨tmps, d.ds⟩ todo with mode := .returning } := by
  unfold fx; simp [Fm.fr, Dk.base, Frame.at]
theorem IOk.noself (hI : IOk C) {R : Pr} {τ : Terr} {W : World} (hi : C.I R τ W) : C.I R (τ.grow W W) W := by
  have : τ.grow W W = τ := by
    obtain ⟨a, b, c⟩ := τ
    simp only [Terr.grow, Terr.mk.injEq, and_true]
    funext x
    exact propext ⟨fun h => h.elim id fun h => by omega, .inl⟩
  rw [this]; exact hi
theorem Terr.grow_id (τ : Terr) (w : World) : τ.grow w w = τ := by
  obtain ⟨a, b, c⟩ := τ
  simp only [Terr.grow, Terr.mk.injEq, and_true]
  funext x
  exact propext ⟨fun h => h.elim id fun h => by omega, .inl⟩
theorem Gua.id (O : Nat → Prop) (w : World) : Gua O w w := ⟨rfl, rfl, rfl, Nat.le_refl _, fun _ _ _ => rfl⟩
theorem Cx.Rel.suf {R : Pr} {w W W₁ : World} {τ : Terr} (hw : C.Rel R w W) (ht : Terra τ R C.St) (s : Suf C.ty C.Wg τ W W₁) : C.Rel R w W₁ := wrel_suf hw ht (fun a b x => (hw.lt a b (.inr x)).2) s
/-- A real step that touches nothing. -/
theorem beh_silent {main : Bool} {τ : Terr} {g g' : Goroutine} {W : World} {p : Program} {ty : TypeId} {Wg : Nat} {A : Proto L} {Fin : Goroutine → World → Prop} (hg : g.status = .running) (hg' : g'.status = .running) (hst : ∀ W₁, Suf ty Wg τ W W₁ → stepG p main g W₁ = .go g' W₁ #[])
    (h : ∀ W₁, Suf ty Wg τ W W₁ → BehE p ty Wg A Fin main (.usr l) 0 τ g' W₁) : BehE p ty Wg A Fin main (.usr l) 0 τ g W := by
  refine BehE.own hg trivial fun W₁ s => ⟨g', W₁, #[], hst W₁ s, hg', Gua.id _ _, fun e he => by simp at he, ?_⟩
  rw [Terr.grow_id]
  exact h W₁ s
theorem BO.silent (hI : IOk C) {fn : FuncId} {tmps : Array Value} {todo todo1 : List Item} {ret1 : Bool} {w : World} (hst : ∀ R tmps' W, ArR (SF C.fs) C.K R tmps tmps' → stepG C.p C.main (G ((C.ds.base fn).at ⟨tmps', C.ds.ds⟩ todo) C.base) W = .go (G (fx [] C.ds ⟨fn, tmps', todo1, ret1⟩) C.base) W #[])
    (h : BO C l ⟨fn, tmps, todo1, ret1⟩ w) : BO C l ⟨fn, tmps, todo, false⟩ w := by
  intro R W m' τ hw hm ht hi
  obtain ⟨fn', tmps', todo', ret'⟩ := m'
  obtain rfl := hm.fn
  obtain rfl := hm.todo
  obtain rfl := hm.ret
  refine beh_silent rfl rfl (fun W₁ s => by rw [fx_at]; exact hst R tmps' W₁ hm.tmps) fun W₁ s => ?_
  exact h R W₁ ⟨fn, tmps', todo1, ret1⟩ τ (hw.suf ht s) ⟨rfl, rfl, rfl, hm.tmps, hm.pins⟩ ht (hI.suf _ _ _ _ hi s)
section ctl
variable {fn : FuncId} {tmps : Array Value} {k : List Item} {w : World}
theorem BO.seq (hI : IOk C) {a b : Code} (h : BO C l ⟨fn, tmps, .code a :: .code b :: k, false⟩ w) : BO C l ⟨fn, tmps, .code (.seq a b) :: k, false⟩ w := BO.silent hI (fun R t W _ => by rw [fx_at]; exact stepG_seq) h
theorem BO.skip (hI : IOk C) (h : BO C l ⟨fn, tmps, k, false⟩ w) : BO C l ⟨fn, tmps, .code .skip :: k, false⟩ w := BO.silent hI (fun R t W _ => by rw [fx_at]; exact stepG_skip) h
theorem BO.block (hI : IOk C) {id : Nat} {c : Code} (h : BO C l ⟨fn, tmps, .code c :: .inBlock id :: k, false⟩ w) : BO C l ⟨fn, tmps, .code (.block id c) :: k, false⟩ w := BO.silent hI (fun R t W _ => by rw [fx_at]; exact stepG_block) h
theorem BO.loop (hI : IOk C) {c : Code} (h : BO C l ⟨fn, tmps, .code c :: .inLoop c :: k, false⟩ w) : BO C l ⟨fn, tmps, .code (.loop c) :: k, false⟩ w := BO.silent hI (fun R t W _ => by rw [fx_at]; exact stepG_loop) h
theorem BO.inLoop (hI : IOk C) {c : Code} (h : BO C l ⟨fn, tmps, .code c :: .inLoop c :: k, false⟩ w) : BO C l ⟨fn, tmps, .inLoop c :: k, false⟩ w := BO.silent hI (fun R t W _ => by rw [fx_at]; exact stepG_inLoop) h
theorem BO.inBlock (hI : IOk C) {id : Nat} (h : BO C l ⟨fn, tmps, k, false⟩ w) : BO C l ⟨fn, tmps, .inBlock id :: k, false⟩ w := BO.silent hI (fun R t W _ => by rw [fx_at]; exact stepG_inBlock) h
theorem BO.exit (hI : IOk C) {id : Nat} {k' : List Item} (he : exitTo id k = some k') (h : BO C l ⟨fn, tmps, k', false⟩ w) : BO C l ⟨fn, tmps, .code (.exit id) :: k, false⟩ w := BO.silent hI (fun R t W _ => by rw [fx_at]; exact stepG_exit he) h
theorem BO.reg (hI : IOk C) {id : Nat} {ops : Array Oper} (h : BO C l ⟨fn, tmps, .inRegion ops (List.range ops.size) :: k, false⟩ w) : BO C l ⟨fn, tmps, .code (.region id ops false) :: k, false⟩ w := BO.silent hI (fun R t W _ => by rw [fx_at]; exact stepG_region) h
theorem BO.regEnd (hI : IOk C) {ops : Array Oper} (h : BO C l ⟨fn, tmps, k, false⟩ w) : BO C l ⟨fn, tmps, .inRegion ops [] :: k, false⟩ w := BO.silent hI (fun R t W _ => by rw [fx_at]; exact stepG_region_end) h
theorem BO.fall (hI : IOk C) (h : BO C l ⟨fn, tmps, [], true⟩ w) : BO C l ⟨fn, tmps, [], false⟩ w := BO.silent hI (fun R t W _ => by rw [fx_ret]; exact stepG_end) h
theorem BO.ret (hI : IOk C) (h : BO C l ⟨fn, tmps, .code .ret :: k, true⟩ w) : BO C l ⟨fn, tmps, .code .ret :: k, false⟩ w := BO.silent hI (fun R t W _ => by rw [fx_ret]; exact stepG_ret') h
theorem eval_rel {R : Pr} {t t' : Array Value} {d : List Deferred} (h : ArR (SF C.fs) C.K R t t') {x : Operand} (hx : okX C.fs x = true) : VR (SF C.fs) C.K R ((Go.Act.mk t []).eval x) ((Go.Act.mk t' d).eval x) := by
  cases x with
  | tmp t => exact h.getD t vr_undef
  | const v => exact okConst_ok hx
  | global g => cases hx
  | func f => exact .func hx rfl (fun i v v' h => by simp at h) rfl (fun i v v' h => by simp at h)
theorem BO.cond (hI : IOk C) {c : Operand} {a b : Code} {t : Bool} (hx : okX C.fs c = true) (hc : (Go.Act.mk tmps []).eval c = .bool t) (h : BO C l ⟨fn, tmps, .code (if t then a else b) :: k, false⟩ w) : BO C l ⟨fn, tmps, .code (.cond c a b) :: k, false⟩ w :=
  BO.silent hI (fun R t' W ha => by
    rw [fx_at]
    have h1 := eval_rel (C := C) (d := C.ds.ds) ha hx
    rw [hc] at h1
    have h2 : (Go.Act.mk t' C.ds.ds).eval c = .bool t := by
      generalize (Go.Act.mk t' C.ds.ds).eval c = v' at h1
      cases h1; rfl
    exact stepG_cond h2) h
end ctl
structure FnOk (p : Program) (fn : FuncId) : Prop where
  res : ∃ f, p.funcs[fn]? = some f ∧ plainRes f.results.toList
theorem fmr_piece {R : Pr} {fn : FuncId} {tmps tmps' : Array Value} {c : Code} (hc : fitCode C.p ⟨C.fs, C.gs, false⟩ c = true) (hf : FnOk C.p fn) (ha : ArR (SF C.fs) C.K R tmps tmps') : FmR C.P C.fs C.K R ⟨fn, tmps, [.code c], false⟩ ⟨fn, tmps', [.code c], false⟩ := by
  obtain ⟨f, h1, h2⟩ := hf.res
  refine ⟨rfl, rfl, rfl, ha, fun i hi => ?_, ⟨f, f, h1, h1, rfl, h2⟩⟩
  simp only [List.mem_cons, List.not_mem_nil, or_false] at hi
  subst hi
  exact hc
/-- A PIECE OF TEXT by the kit's walk over the ghost's world. -/
theorem BO.piece (F : Fit3 C.P C.fs) (hI : IOk C) {fn : FuncId} {tmps : Array Value} {c : Code} {k : List Item} {w : World} (hc : fitCode C.p ⟨C.fs, C.gs, false⟩ c = true) (hf : FnOk C.p fn) (hno : codeNo C.S c = true)
    (hwp : ∀ T, Code.wp C.p c (fun e a' w' => e = .normal ∧ BO C l ⟨fn, a'.tmps, k, false⟩ w') ⟨tmps, []⟩ (Tt.tp w T 0)) : BO C l ⟨fn, tmps, .code c :: k, false⟩ w := by
  intro R W m' τ hw hm ht hi
  obtain ⟨fn', tmps', todo', ret'⟩ := m'
  obtain rfl := hm.fn
  obtain rfl := hm.todo
  obtain rfl := hm.ret
  have hfm := fmr_piece (R := R) hc hf hm.tmps
  have hrel : RelS C.P C.fs C.K C.p.globals.size C.St ⟨fn, tmps, [.code c], false⟩ [] w := ⟨R, W, _, [], hw, hfm, .nil⟩
  have tree := piece_tree F rfl hrel hwp (fun e a w h => .inl h.1) (fun e a w T k h => ⟨h.1, h.2.tape T k⟩)
  have := tree_beh (l := l) F hI (k := k) (fn0 := fn) tree (fun x wT e1 e2 e3 hq => by
      rcases (hq wT.tape).2 with h | h
      · exact BO.untape h.2.2
      · cases h.1)
    (fun x wT e1 e2 e3 hq => by
      rcases hq.2 with h | h
      · exact absurd h.1 e3
      · cases h.1) R W ⟨fn, tmps', [.code c], false⟩ [] τ rfl (fun _ e => by cases e) hw hfm .nil ht hi hm.pins (fun i hi => by
      simp only [lastOf, List.mem_cons, List.not_mem_nil, or_false] at hi
      subst hi; exact hno)
  have e : fx k C.ds ⟨fn, tmps', [.code c], false⟩ = fx [] C.ds ⟨fn, tmps', .code c :: k, false⟩ := by unfold fx; simp [Fm.fr]
  unfold stk at this
  rw [e] at this
  exact this
/-- .. to the frame's return. -/
theorem BO.tail (F : Fit3 C.P C.fs) (hI : IOk C) {fn : FuncId} {tmps : Array Value} {c : Code} {w : World} (hc : fitCode C.p ⟨C.fs, C.gs, false⟩ c = true) (hf : FnOk C.p fn) (hno : codeNo C.S c = true)
    (hwp : ∀ T, Code.wp C.p c (fun e a' w' => (e = .normal ∨ e = .ret) ∧ ∀ todo, BO C l ⟨fn, a'.tmps, todo, true⟩ w') ⟨tmps, []⟩ (Tt.tp w T 0)) : BO C l ⟨fn, tmps, [.code c], false⟩ w := by
  intro R W m' τ hw hm ht hi
  obtain ⟨fn', tmps', todo', ret'⟩ := m'
  obtain rfl := hm.fn
  obtain rfl := hm.todo
  obtain rfl := hm.ret
  have hfm := fmr_piece (R := R) hc hf hm.tmps
  have hrel : RelS C.P C.fs C.K C.p.globals.size C.St ⟨fn, tmps, [.code c], false⟩ [] w := ⟨R, W, _, [], hw, hfm, .nil⟩
  have tree := piece_tree F rfl hrel hwp (fun e a w h => h.1) (fun e a w T k h => ⟨h.1, fun todo => (h.2 todo).tape T k⟩)
  have := tree_beh (l := l) F hI (k := []) (fn0 := fn) tree (fun x wT e1 e2 e3 hq => by
      rcases (hq wT.tape).2 with h | h
      · exact BO.fall hI (BO.untape (h.2.2 []))
      · exact BO.fall hI (BO.untape (h.2 [])))
    (fun x wT e1 e2 e3 hq => by
      rcases hq.2 with h | h
      · exact h.2.2 _
      · exact h.2 _) R W ⟨fn, tmps', [.code c], false⟩ [] τ rfl (fun _ e => by cases e) hw hfm .nil ht hi hm.pins (fun i hi => by
      simp only [lastOf, List.mem_cons, List.not_mem_nil, or_false] at hi
      subst hi; exact hno)
  exact this
theorem put_pins {tmps' : Array Value} {dst : Option Nat} {v : Value} {d : List Deferred} (hp : ∀ x ∈ C.pin, tmps'.getD x.1 undef = x.2) (hn : ∀ s, dst = some s → s ∉ C.S) : ∀ x ∈ C.pin, (Go.Act.put ⟨tmps', d⟩ dst v).tmps.getD x.1 undef = x.2 := by
  intro x hx
  cases dst with
  | none => exact hp x hx
  | some s =>
    have hne : s ≠ x.1 := fun e => hn s rfl (e ▸ List.mem_map_of_mem hx)
    rw [← hp x hx]
    simp only [Go.Act.put, Array.getD_eq_getD_getElem?, Array.getElem?_setIfInBounds_ne hne]
theorem put_rel {R : Pr} {t t' : Array Value} {d d' : List Deferred} (h : ArR (SF C.fs) C.K R t t') {dst : Option Nat} {v v' : Value} (hv : VR (SF C.fs) C.K R v v') : ArR (SF C.fs) C.K R (Go.Act.put ⟨t, d⟩ dst v).tmps (Go.Act.put ⟨t', d'⟩ dst v').tmps := by
  cases dst with
  | none => exact h
  | some s => exact h.set s hv
theorem wanted_rel {R : Pr} {t t' : Array Value} {o : Oper} {ops : Array Oper} (h : ArR (SF C.fs) C.K R t t') (hw : Region.wanted o (yielded ops t) = true) : Region.wanted o (yielded ops t') = true := by
  rw [← yielded_rel ops h]; exact hw
/-- AN OPERATION. -/
theorem BO.op (F : Fit3 C.P C.fs) (hI : IOk C) {fn : FuncId} {tmps : Array Value} {ops : Array Oper} {i : Nat} {rest : List Nat} {k : List Item} {w : World} {o : Oper} (ho : ops[i]? = some o) (hwt : Region.wanted o (yielded ops tmps) = true)
    (hok : okOp C.p ⟨C.fs, C.gs, false⟩ o.op = true) (hnd : ∀ s, o.dst = some s → s ∉ C.S)
    (hx : ∀ T, ∃ v w', ((execOp (Go.Act.mk tmps []).eval o).run C.p (Tt.tp w T 0) = .ok (.value v) w' ∨ ((execOp (Go.Act.mk tmps []).eval o).run C.p (Tt.tp w T 0) = .ok .skip w' ∧ v = undef)) ∧ BO C l ⟨fn, (Go.Act.put ⟨tmps, []⟩ o.dst v).tmps, .inRegion ops rest :: k, false⟩ w') :
    BO C l ⟨fn, tmps, .inRegion ops (i :: rest) :: k, false⟩ w := by
  intro R W m' τ hw hm ht hi
  obtain ⟨fn', tmps', todo', ret'⟩ := m'
  obtain rfl := hm.fn
  obtain rfl := hm.todo
  obtain rfl := hm.ret
  rw [fx_at]
  refine BehE.own rfl trivial fun W₁ s => ?_
  have hw₁ := hw.suf ht s
  have hi₁ := hI.suf _ _ _ _ hi s
  let T : Tape := fun n q => W₁.tape (W₁.drawn + n) q
  have hw₂ : C.Rel R (Tt.tp w T 0) W₁ := ⟨hw₁.inj, hw₁.inj', hw₁.lt, hw₁.low, hw₁.gle, hw₁.cont, hw₁.rest, hw₁.st, hw₁.np⟩
  have htp : Tp (Tt.tp w T 0) W₁ := fun n q => by show W₁.tape (W₁.drawn + (0 + n)) q = _; rw [Nat.zero_add]
  obtain ⟨v, w', hrun, hB⟩ := hx T
  have hsim := sim_execOp (P := C.P) (q := ⟨C.fs, C.gs, false⟩) (o := o) (ρ := (Go.Act.mk tmps []).eval) (ρ' := (Go.Act.mk tmps' C.ds.ds).eval) F.toFit2.toFit (hw₂.relOk rfl) (fun x hx => eval_rel hm.tmps hx) (fun g => rfl) (fun g => rfl) rfl (fun f h => h) (fun e => by cases e) hok
  have key : ∃ R1 v' W1 ev, ((execOp (Go.Act.mk tmps' C.ds.ds).eval o).run C.p W₁ = .ok (.value v') W1 ∨ ((execOp (Go.Act.mk tmps' C.ds.ds).eval o).run C.p W₁ = .ok .skip W1 ∧ v' = undef)) ∧ VR (SF C.fs) C.K R1 v v' ∧ WStep (SF C.fs) C.K R C.p.globals.size C.St (Tt.tp w T 0) W₁ R1 w' W1 ∧
      (∀ es, (execOp (Go.Act.mk tmps' C.ds.ds).eval o).events C.p W₁ es = es ++ ev) ∧ ∀ e ∈ ev, EvOk R1 C.St e := by
    rcases hrun with hrun | ⟨hrun, rfl⟩
    · obtain ⟨R1, x', W1, ev, e1, e2, e3, e4, e5⟩ := Sim.run rfl _ hsim hw₂ htp hrun
      cases e2 with
      | value hv => exact ⟨R1, _, W1, ev, .inl e1, hv, e3, e4, e5⟩
    · obtain ⟨R1, x', W1, ev, e1, e2, e3, e4, e5⟩ := Sim.run rfl _ hsim hw₂ htp hrun
      cases e2 with
      | skip => exact ⟨R1, undef, W1, ev, .inr ⟨e1, rfl⟩, vr_undef, e3, e4, e5⟩
  obtain ⟨R1, v', W1, ev, e1, hv, e3, e4, e5⟩ := key
  have hb : (C.ds.base fn).kind ≠ .early := C.ds.ok
  have hwt' := wanted_rel (C := C) hm.tmps hwt
  have hst : stepG C.p C.main (G ((C.ds.base fn).at ⟨tmps', C.ds.ds⟩ (.inRegion ops (i :: rest) :: k)) C.base) W₁ = .go (G ((C.ds.base fn).at (Go.Act.put ⟨tmps', C.ds.ds⟩ o.dst v') (.inRegion ops rest :: k)) C.base) W1 (listed C.p (C.ds.base fn).fn ⟨tmps', C.ds.ds⟩ o W₁) := by
    rcases e1 with e1 | ⟨e1, rfl⟩
    · exact stepG_value ho hwt' hb e1
    · exact stepG_none ho hwt' hb e1
  have hput : Go.Act.put ⟨tmps', C.ds.ds⟩ o.dst v' = ⟨(Go.Act.put ⟨tmps', C.ds.ds⟩ o.dst v').tmps, C.ds.ds⟩ := by cases o.dst <;> rfl
  have hsub : ∀ e ∈ listed C.p (C.ds.base fn).fn ⟨tmps', C.ds.ds⟩ o W₁, EvOk R1 C.St e := fun e he => by
    unfold listed at he
    rw [e4] at he
    exact e5 e (by simpa using mem_seen he)
  have hsz : W₁.heap.size ≤ W1.heap.size := e3.size.2
  have hnew : ∀ a b, R1 a b → R a b ∨ (W₁.heap.size ≤ b ∧ b < W1.heap.size) := fun a b x => by
    rcases e3.new a b x with y | ⟨_, y⟩
    · exact .inl y
    · exact .inr ⟨y, (e3.rel.ltR a b x).2⟩
  have ht1 : Terra (τ.grow W₁ W1) R1 C.St := fun a b x => by
    rcases e3.new a b x with y | ⟨y1, y2⟩
    · exact ⟨(ht a b y).1, fun z => .inl ((ht a b y).2 z)⟩
    · refine ⟨fun z => ?_, fun _ => .inr ⟨y2, (e3.rel.ltR a b x).2⟩⟩
      obtain ⟨⟨b', hb'⟩, _⟩ := hw₂.st a z
      have := (hw₂.ltR a b' hb').1
      omega
  have hg : Gua τ.own W₁ W1 := ⟨e3.tape.2, e3.os.2, e3.out.2, hsz, fun b hb hno => e3.keep b hb fun a x => Classical.byContradiction fun z => hno ((ht a b x).2 z)⟩
  have hi1 := hI.step R τ W₁ R1 W1 hi₁ ht ⟨e3.le, e3.tape.2, e3.os.2, e3.out.2, hsz, hnew, e3.keep⟩
  refine ⟨_, W1, _, hst, rfl, hg, fun e he => evT_of_evOk (hsub e he) ht1, ?_⟩
  rw [deafBehind_still (fun e he => evOk_quiet (hsub e he)), hput, ← fx_at]
  exact hB R1 W1 ⟨fn, _, _, false⟩ _ e3.rel ⟨rfl, rfl, rfl, put_rel (C := C) (hm.tmps.mono e3.le) hv, put_pins (C := C) hm.pins hnd⟩ ht1 hi1
end
end Go.Mt
namespace Go.Mt
open Go.Conc Go.Tt
open Go.ConcR (KK wgBlock WgAt stA smA rd wr)
set_option linter.unusedVariables false
section
variable {L : Type} {C : Cx L} {l : L}
theorem codeNo_fit {p : Program} {q : Tt.Cl} : ∀ c : Code, fitCode p q c = true → codeNo [] c = true := by
  intro c
  induction c with
  | region id ops dr => 
    intro _
    simp only [codeNo, Array.all_eq_true_iff_forall_mem]
    intro o _
    cases o.dst <;> rfl
  | seq a b iha ihb => intro h; simp only [fitCode, Bool.and_eq_true] at h; simp only [codeNo, Bool.and_eq_true]; exact ⟨iha h.1, ihb h.2⟩
  | cond c a b iha ihb => intro h; simp only [fitCode, Bool.and_eq_true] at h; simp only [codeNo, Bool.and_eq_true]; exact ⟨iha h.1.2, ihb h.2⟩
  | block id c ih => intro h; exact ih h
  | loop c ih => intro h; exact ih h
  | scope c ih => intro h; exact ih h
  | skip => intro _; rfl
  | ret => intro _; rfl
  | exit _ => intro _; rfl
  | label _ => intro _; rfl
  | _ => intro h; simp [fitCode] at h
/-- The called frame's own. -/
def Cx.sub (C : Cx L) (m' : Fm) (R₀ : Pr) : Cx L := { C with base := fx [] C.ds m' :: C.base, ds := .nil, I := fun R τ W => C.I R τ W ∧ R₀.le R, pin := [] }
theorem IOk.sub (hI : IOk C) (m' : Fm) (R₀ : Pr) : IOk (C.sub m' R₀) :=
  ⟨fun R τ W W₁ h s => ⟨hI.suf R τ W W₁ h.1 s, h.2⟩, fun R τ W R1 W1 h ht hs => ⟨hI.step R τ W R1 W1 h.1 ht hs, h.2.trans hs.le⟩, fun R τ W h => hI.wg R τ W h.1⟩
theorem exec_callv {p : Program} {o : Oper} {x : Operand} {f : FuncId} {args : Array Operand} {ats : Array TypeId} {first cap : Array Value} (hop : o.op = .call ⟨.value x, args, ats⟩) {ρ : Operand → Value} (hρ : ρ x = .func (.func f) first cap) {fn : Func} {c : Code} (hf : p.funcs[f]? = some fn)
    (hn : (fn.name == "runtime.NumGoroutine") = false) (hb : fn.body = some c) (w : World) : (execOp ρ o).run p w = .ok (.enter f (first ++ args.map ρ ++ cap)) w ∧ (execOp ρ o).events p w #[] = #[] := by
  obtain ⟨dst, op', type, pos, after, guard⟩ := o
  simp only at hop
  subst hop
  have hn' : ¬ fn.name = "runtime.NumGoroutine" := by simpa using hn
  constructor
  · simp [execOp, resolve, Deferred.ofValue, hρ, invoke, callFunc, program, bind, Sem.bind, pure, Sem.run, hf, hn', hb]
  · simp [execOp, resolve, Deferred.ofValue, hρ, invoke, callFunc, program, bind, Sem.bind, pure, Sem.run, Sem.events, Sem.runT, hf, hn', hb]
/-- What is called, on both sides. -/
structure Callee (C : Cx L) (tmps : Array Value) (x : Operand) (f : FuncId) (first cap : Array Value) : Prop where
  here : (Go.Act.mk tmps []).eval x = .func (.func f) first cap
  there : ∀ R tmps' d, ArR (SF C.fs) C.K R tmps tmps' → ∃ first' cap', (Go.Act.mk tmps' d).eval x = .func (.func f) first' cap' ∧ ArR (SF C.fs) C.K R first first' ∧ ArR (SF C.fs) C.K R cap cap'
theorem Callee.static (tmps : Array Value) (f : FuncId) : Callee C tmps (.func f) f #[] #[] := ⟨rfl, fun R tmps' d _ => ⟨#[], #[], rfl, .empty, .empty⟩⟩
theorem Callee.dyn {tmps : Array Value} {x : Operand} {f : FuncId} {first cap : Array Value} (hx : okX C.fs x = true) (h : (Go.Act.mk tmps []).eval x = .func (.func f) first cap) : Callee C tmps x f first cap := by
  refine ⟨h, fun R tmps' d ha => ?_⟩
  have h1 := eval_rel (C := C) (d := d) ha hx
  rw [h] at h1
  generalize (Go.Act.mk tmps' d).eval x = v' at h1
  cases h1 with
  | func s e1 h1 e2 h2 => exact ⟨_, _, rfl, ⟨e1, h1⟩, ⟨e2, h2⟩⟩
/-- A CALL: into the frame. -/
theorem BO.callN (hI : IOk C) {fn : FuncId} {tmps : Array Value} {ops : Array Oper} {i : Nat} {rest : List Nat} {k : List Item} {w : World} {o : Oper} {x : Operand} {f : FuncId} {first cap : Array Value} {args : Array Operand} {ats : Array TypeId} (ho : ops[i]? = some o) (hwt : Region.wanted o (yielded ops tmps) = true)
    (hop : o.op = .call ⟨.value x, args, ats⟩) (hx : Callee C tmps x f first cap) (hargs : args.all (okX C.fs) = true) {fnf : Func} {cf : Code} (hf : C.p.funcs[f]? = some fnf) (hnm : (fnf.name == "runtime.NumGoroutine") = false) (hb : fnf.body = some cf) (hres : plainRes fnf.results.toList)
    (hB : ∀ (R₀ : Pr) (m' : Fm), FmW C R₀ ⟨fn, tmps, .inRegion ops (i :: rest) :: k, false⟩ m' → BO (C.sub m' R₀) l ⟨f, (first ++ args.map (Go.Act.mk tmps []).eval ++ cap) ++ Array.replicate (fnf.ntmps - (first ++ args.map (Go.Act.mk tmps []).eval ++ cap).size) undef, [.code cf], false⟩ w) :
    BO C l ⟨fn, tmps, .inRegion ops (i :: rest) :: k, false⟩ w := by
  intro R W m' τ hw hm ht hi
  have hm0 := hm
  obtain ⟨fn', tmps', todo', ret'⟩ := m'
  obtain rfl := hm.fn
  obtain rfl := hm.todo
  obtain rfl := hm.ret
  obtain ⟨first', cap', hx', hfi, hca⟩ := hx.there R tmps' C.ds.ds hm.tmps
  have hb' : (C.ds.base fn).kind ≠ .early := C.ds.ok
  have hwt' := wanted_rel (C := C) hm.tmps hwt
  rw [fx_at]
  refine beh_silent rfl rfl (g' := G (Frame.enter C.p f (first' ++ args.map (Go.Act.mk tmps' C.ds.ds).eval ++ cap') .normal) (fx [] C.ds ⟨fn, tmps', .inRegion ops (i :: rest) :: k, false⟩ :: C.base)) (fun W₁ s => ?_) fun W₁ s => ?_
  rotate_right
  · have hxs : ArR (SF C.fs) C.K R (first ++ args.map (Go.Act.mk tmps []).eval ++ cap) (first' ++ args.map (Go.Act.mk tmps' C.ds.ds).eval ++ cap') := (hfi.append (ArR.maps (fun x hx => eval_rel (C := C) hm.tmps hx) hargs)).append hca
    have := hB R _ hm0 R W₁ ⟨f, (first' ++ args.map (Go.Act.mk tmps' C.ds.ds).eval ++ cap') ++ Array.replicate (fnf.ntmps - (first' ++ args.map (Go.Act.mk tmps' C.ds.ds).eval ++ cap').size) undef, [.code cf], false⟩ τ (hw.suf ht s) ⟨rfl, rfl, rfl, hxs.pad fnf.ntmps, fun x hx => by cases hx⟩ ht ⟨hI.suf _ _ _ _ hi s, .refl R⟩
    rw [enter_fr hf hb, ← fx_nil]
    exact this
  · obtain ⟨x1, x2⟩ := exec_callv (p := C.p) hop (ρ := (Go.Act.mk tmps' C.ds.ds).eval) hx' hf hnm hb W₁
    have hst := stepG_enter (main := C.main) (b := C.ds.base fn) (rest := rest) (cs := C.base) (k := k) ho hwt' hb' x1
    rw [hst]
    unfold listed
    rw [x2, Conc.seen_none, fx_at]
/-- THE WAY BACK. -/
theorem BO.retN (hI : IOk C) {R₀ : Pr} {m m' : Fm} (hm : FmW C R₀ m m') {ops : Array Oper} {i : Nat} {rest : List Nat} {k : List Item} (hr : m.ret = false) (htd : m.todo = .inRegion ops (i :: rest) :: k) (hnd : ∀ s, (ops[i]?).bind (·.dst) = some s → s ∉ C.S)
    {f : FuncId} {tmps : Array Value} {todo : List Item} {w : World} {v : Value} {fnf : Func} (hf : C.p.funcs[f]? = some fnf) (hv : (resS fnf.results.toList tmps).run C.p w = .ok v w) (h : BO C l (m.fin ops i rest k v) w) : BO (C.sub m' R₀) l ⟨f, tmps, todo, true⟩ w := by
  intro R W x' τ hw hx ht hi
  obtain ⟨f', tmps', todo', ret'⟩ := x'
  obtain rfl := hx.fn
  obtain rfl := hx.todo
  obtain rfl := hx.ret
  have hr' : m'.ret = false := hm.ret.symm.trans hr
  have htd' : m'.todo = .inRegion ops (i :: rest) :: k := hm.todo.symm.trans htd
  refine BehE.own rfl trivial fun W₁ s => ?_
  have hw₁ : C.Rel R w W₁ := Cx.Rel.suf (C := C) hw ht s
  have hi₁ := hI.suf _ _ _ _ hi.1 s
  let T : Tape := fun n q => W₁.tape (W₁.drawn + n) q
  have hw₂ : C.Rel R (Tt.tp w T 0) W₁ := ⟨hw₁.inj, hw₁.inj', hw₁.lt, hw₁.low, hw₁.gle, hw₁.cont, hw₁.rest, hw₁.st, hw₁.np⟩
  have htp : Tp (Tt.tp w T 0) W₁ := fun n q => by show W₁.tape (W₁.drawn + (0 + n)) q = _; rw [Nat.zero_add]
  have hrun := (tf_resS _ _ w v w hv).2 T 0
  obtain ⟨R1, v', W1, ev, e1, g3, e3, e4, e5⟩ := Sim.run (P := C.P) rfl _ (sim_resS hx.tmps fnf.results.toList) hw₂ htp hrun
  obtain ⟨hWW, _⟩ := tf_resS _ _ W₁ v' W1 e1
  subst hWW
  have hret : (retS C.p ⟨f, tmps', todo, true⟩ [m']).run C.p W1 = .ok (m'.fin ops i rest k v', []) W1 := (retS_mk htd' hf e1).1
  obtain ⟨_, _, _, e⟩ := retS_fx (main := C.main) rfl hr' hret [] C.ds C.base
  have hfx : fx [] (C.sub m' R₀).ds ⟨f, tmps', todo, true⟩ = (⟨f, tmps', todo, true⟩ : Fm).fr := fx_nil _
  rw [hfx]
  have hsub : ∀ e ∈ seen C.p f ((retS C.p ⟨f, tmps', todo, true⟩ [m']).events C.p W1 #[]), EvOk R1 C.St e := fun e he => by
    rw [(retS_mk htd' hf e1).2, e4] at he
    exact e5 e (by simpa using mem_seen he)
  have hnew : ∀ a b, R1 a b → R a b ∨ (W1.heap.size ≤ b ∧ b < W1.heap.size) := fun a b x => by
    rcases e3.new a b x with y | ⟨_, y⟩
    · exact .inl y
    · exact .inr ⟨y, (e3.rel.ltR a b x).2⟩
  have ht1 : Terra (τ.grow W1 W1) R1 C.St := fun a b x => by
    rcases e3.new a b x with y | ⟨y1, y2⟩
    · exact ⟨(ht a b y).1, fun z => .inl ((ht a b y).2 z)⟩
    · have := (e3.rel.ltR a b x).2; omega
  have hi1 := hI.step R τ W1 R1 W1 hi₁ ht ⟨e3.le, rfl, rfl, rfl, Nat.le_refl _, hnew, fun _ _ _ => rfl⟩
  refine ⟨_, W1, _, e, rfl, Gua.id _ _, fun e he => evT_of_evOk (hsub e he) ht1, ?_⟩
  rw [deafBehind_still (fun e he => evOk_quiet (hsub e he))]
  have hrel1 : C.Rel R1 w W1 := ⟨e3.rel.inj, e3.rel.inj', e3.rel.lt, e3.rel.low, e3.rel.gle, e3.rel.cont, e3.rel.rest, e3.rel.st, e3.rel.np⟩
  refine h R1 W1 _ _ hrel1 ⟨hm.fn, rfl, hm.ret, ?_, ?_⟩ ht1 hi1
  · have := put_rel (C := C) (d := []) (d' := []) (hm.tmps.mono (hi.2.trans e3.le)) (dst := (ops[i]?).bind (·.dst)) g3
    unfold Fm.fin
    simp only
    unfold Go.Act.put at this
    cases hd : (ops[i]?).bind (·.dst) with
    | none => rw [hd] at this; exact this
    | some s => rw [hd] at this; exact this
  · have := put_pins (C := C) (d := []) (v := v') hm.pins hnd
    unfold Fm.fin
    simp only
    unfold Go.Act.put at this
    cases hd : (ops[i]?).bind (·.dst) with
    | none => rw [hd] at this; exact this
    | some s => rw [hd] at this; exact this
/-- A CALL of a lone function, by its contract. -/
theorem BO.callL (F : Fit3 C.P C.fs) (hI : IOk C) {fn : FuncId} {tmps : Array Value} {ops : Array Oper} {i : Nat} {rest : List Nat} {k : List Item} {w : World} {o : Oper} {x : Operand} {f : FuncId} {first cap : Array Value} {args : Array Operand} {ats : Array TypeId} (ho : ops[i]? = some o) (hwt : Region.wanted o (yielded ops tmps) = true)
    (hop : o.op = .call ⟨.value x, args, ats⟩) (hx : Callee C tmps x f first cap) (hargs : args.all (okX C.fs) = true) (hg : C.gs f = true) (hnd : ∀ s, o.dst = some s → s ∉ C.S)
    {Q : Value → World → Prop} (hQt : ∀ v w T e, Q v w → Q v (Tt.tp w T e)) (hc : ∀ T, Calls C.p f (first ++ args.map (Go.Act.mk tmps []).eval ++ cap) (Tt.tp w T 0) (fun e w' => ∃ v, e = .returned v ∧ Q v w'))
    (hJ : ∀ v w', Q v w' → BO C l ⟨fn, (Go.Act.put ⟨tmps, []⟩ o.dst v).tmps, .inRegion ops rest :: k, false⟩ w') : BO C l ⟨fn, tmps, .inRegion ops (i :: rest) :: k, false⟩ w := by
  obtain ⟨fnf, cf, g1, g2, g3, g4, g5⟩ := F.fn f hg rfl
  have g2' : C.p.funcs[f]? = some fnf := g2
  have hpl : plainRes fnf.results.toList := F.res f hg rfl fnf g2
  refine BO.callN hI ho hwt hop hx hargs g2' g3 g4 hpl fun R₀ m0 hm0 => ?_
  generalize hxs : first ++ args.map (Go.Act.mk tmps []).eval ++ cap = xs at hc ⊢
  have hI' := hI.sub m0 R₀
  have hent : entF C.p f xs = ⟨f, xs ++ Array.replicate (fnf.ntmps - xs.size) undef, [.code cf], false⟩ := by simp [entF, g2', g4]
  intro R W m' τ hw hm ht hi
  obtain ⟨f', tmps', todo', ret'⟩ := m'
  obtain rfl := hm.fn
  obtain rfl := hm.todo
  obtain rfl := hm.ret
  have hfm : FmR C.P C.fs C.K R ⟨f, xs ++ Array.replicate (fnf.ntmps - xs.size) undef, [.code cf], false⟩ ⟨f, tmps', [.code cf], false⟩ := by
    refine ⟨rfl, rfl, rfl, hm.tmps, fun j hj => ?_, ⟨fnf, fnf, g1, g2, rfl, hpl⟩⟩
    simp only [List.mem_cons, List.not_mem_nil, or_false] at hj
    subst hj; exact g5
  have hrel : RelS C.P C.fs C.K C.p.globals.size C.St ⟨f, xs ++ Array.replicate (fnf.ntmps - xs.size) undef, [.code cf], false⟩ [] w := ⟨R, W, _, [], hw, hfm, .nil⟩
  have tree : Tt.LT C.p (fun mT wT => mT.ret = true ∧ mT.fn = f ∧ ∃ v, (resS fnf.results.toList mT.tmps).run C.p wT = .ok v wT ∧ Q v wT) ⟨f, xs ++ Array.replicate (fnf.ntmps - xs.size) undef, [.code cf], false⟩ [] w := by
    refine bar (P := C.P) F rfl (fun m w T e h => ⟨h.1, h.2.1, let ⟨v, a, b⟩ := h.2.2; ⟨v, (tf_resS _ _ w v w a).2 T e, hQt _ _ _ _ b⟩⟩) ⟨hrel, fun T => ?_⟩
    obtain ⟨e, w', fr, ⟨v, rfl, hq⟩, hcm, hff, hlv⟩ := hc T [pz]
    obtain ⟨hmode, hdef, hkind, fn', hfn', hres⟩ := hlv
    obtain ⟨n, hn⟩ := hcm
    have hfr0 : Frame.enter C.p f xs .normal = (⟨f, xs ++ Array.replicate (fnf.ntmps - xs.size) undef, [.code cf], false⟩ : Fm).fr := enter_fr g2' g4
    rw [hfr0] at hn
    obtain ⟨k2, mT, hi, hfr⟩ := reach (P := C.P) F rfl hmode n (RelS.tape hrel T 0) hn
    have h1 : mT.tmps = fr.tmps := congrArg Frame.tmps hfr
    have h2 : mT.fn = f := (congrArg Frame.fn hfr).trans hff
    have h4 : mT.ret = true := by
      cases hr : mT.ret with
      | true => rfl
      | false => rw [← hfr, Fm.fr_run hr] at hmode; cases hmode
    rw [hff, g2'] at hfn'
    obtain rfl := Option.some.inj hfn'
    exact ⟨k2, mT, w', hi, h4, h2, v, by rw [h1]; exact results_inv hpl hres, hq⟩
  have back : ∀ (x : Fm) (wT : World) (todo : List Item), (∃ v, (resS fnf.results.toList x.tmps).run C.p wT = .ok v wT ∧ Q v wT) → BO (C.sub m0 R₀) l ⟨f, x.tmps, todo, true⟩ wT := fun x wT todo ⟨v, h5, h6⟩ => by
    refine BO.retN hI hm0 rfl rfl (fun s hs => hnd s (by rw [ho] at hs; exact hs)) g2' h5 ?_
    have := hJ v wT h6
    unfold Fm.fin
    rw [ho]
    simp only [Option.bind_some]
    unfold Go.Act.put at this
    cases hd : o.dst with
    | none => rw [hd] at this; exact this
    | some s => rw [hd] at this; exact this
  have := tree_beh (C := C.sub m0 R₀) (l := l) F hI' (k := []) (fn0 := f) tree (fun x wT e1 e2 e3 hq => BO.fall hI' (back x wT [] (by
      obtain ⟨_, _, v, h5, h6⟩ := hq wT.tape
      have h7 : Q v (Tt.tp (Tt.tp wT wT.tape 0) wT.tape wT.drawn) := hQt _ _ _ _ h6
      have h8 := (tf_resS _ _ _ v _ h5).2 wT.tape wT.drawn
      exact ⟨v, h8, h7⟩)))
    (fun x wT e1 e2 e3 hq => back x wT _ hq.2.2) R W ⟨f, tmps', [.code cf], false⟩ [] τ rfl (fun _ e => by cases e) hw hfm .nil ht hi (fun x hx => by cases hx) (fun i hi => by
      simp only [lastOf, List.mem_cons, List.not_mem_nil, or_false] at hi
      subst hi
      show codeNo [] cf = true
      exact codeNo_fit cf g5)
  exact this
/-! ### communications -/
theorem exec_recv {p : Program} {o : Oper} {ct : TypeId} {x : Operand} {ok : Bool} {ρ : Operand → Value} {c : Nat} {z : Value} {dir : ChanDir} {e : TypeId} {ie : TypeInfo} (hop : o.op = .recv ct x ok) (hct : p.underlying ct = some (.chan dir e)) (hie : p.info? e = some ie) (hz : ie.zero = some z) (hx : ρ x = .chan (some c)) (w : World) :
    (execOp ρ o).run p w = .ok (.comm #[rcase c z] true (.recv ok)) w ∧ (execOp ρ o).events p w #[] = #[] := by
  obtain ⟨dst, op', type, pos, after, guard⟩ := o
  simp only at hop
  subst hop
  have hu : ∀ w, (underlying ct).run p w = .ok (.chan dir e) w := fun w => by simp [underlying, program, bind, Sem.bind, Sem.run, hct, pure]
  have hzz : ∀ w, (zeroValue e).run p w = .ok z w := fun w => by simp [zeroValue, typeInfo, program, bind, Sem.bind, Sem.run, hie, hz, pure]
  have he : execOp ρ ⟨dst, .recv ct x ok, type, pos, after, guard⟩ = (underlying ct).bind (fun d => match d with | .chan _ elem => (zeroValue elem).bind (fun z => .pure (.comm #[{ chan := ρ x, send := none, zero := z }] true (.recv ok))) | _ => stuck "receive: channel type expected") := by
    simp only [execOp]
    show Sem.bind _ _ = Sem.bind _ _
    congr 1
  rw [he]
  constructor
  · rw [Sem.run_bind', hu]
    simp only [Result.andThen]
    rw [Sem.run_bind', hzz]
    simp only [Result.andThen, hx]
    rfl
  · rw [Sem.events_bind', hu, Result.evThen_ok, events_underlying]
    simp only
    rw [Sem.events_bind', hzz, Result.evThen_ok, events_zeroValue]
    rfl
theorem exec_send {p : Program} {o : Oper} {x y : Operand} {ρ : Operand → Value} {c : Nat} {v : Value} (hop : o.op = .send x y) (hx : ρ x = .chan (some c)) (hy : ρ y = v) (w : World) :
    (execOp ρ o).run p w = .ok (.comm #[scase c v (.tuple #[])] true .send) w ∧ (execOp ρ o).events p w #[] = #[] := by
  obtain ⟨dst, op', type, pos, after, guard⟩ := o
  simp only at hop
  subst hop
  constructor
  · simp [execOp, hx, hy, scase, pure, Sem.run]
  · simp [execOp, hx, hy, scase, pure, Sem.run, Sem.events, Sem.runT]
theorem chan_rel {R : Pr} {w W : World} (hw : C.Rel R w W) {g c : Nat} {v' : Value} (hK : C.K g c) (h : VR (SF C.fs) C.K R (.chan (some g)) v') : v' = .chan (some c) := by
  cases h with
  | chan h =>
    cases h with
    | some h => rw [hw.inj g _ c h (.inr hK)]
theorem served_fx {fn : FuncId} {tmps : Array Value} {ops : Array Oper} {i : Nat} {rest : List Nat} {k : List Item} {o : Oper} (ho : ops[i]? = some o) (v : Value) : Conc.served (G ((C.ds.base fn).at ⟨tmps, C.ds.ds⟩ (.inRegion ops (i :: rest) :: k)) C.base) v = G (fx [] C.ds ⟨fn, (Go.Act.put ⟨tmps, []⟩ o.dst v).tmps, .inRegion ops rest :: k, false⟩) C.base := by
  rw [fx_at]
  have hput : Go.Act.put ⟨tmps, C.ds.ds⟩ o.dst v = ⟨(Go.Act.put ⟨tmps, []⟩ o.dst v).tmps, C.ds.ds⟩ := by cases o.dst <;> rfl
  have hfin : ((C.ds.base fn).at ⟨tmps, C.ds.ds⟩ (.inRegion ops (i :: rest) :: k)).finish v = (C.ds.base fn).at (Go.Act.put ⟨tmps, C.ds.ds⟩ o.dst v) (.inRegion ops rest :: k) := by rw [Frame.finish_at, ho]; rfl
  rw [← hput, ← hfin]; rfl
/-- A RECEIVE. -/
theorem BO.recv (hI : IOk C) {fn : FuncId} {tmps : Array Value} {ops : Array Oper} {i : Nat} {rest : List Nat} {k : List Item} {w : World} {o : Oper} {ct : TypeId} {x : Operand} {ok : Bool} {c g : Nat} {z : Value} {dir : ChanDir} {e : TypeId} {ie : TypeInfo} {okv : Value → Prop} {nx : Value → L} {sh : L}
    (ho : ops[i]? = some o) (hwt : Region.wanted o (yielded ops tmps) = true) (hop : o.op = .recv ct x ok) (hct : C.p.underlying ct = some (.chan dir e)) (hie : C.p.info? e = some ie) (hz : ie.zero = some z) (hzr : ∀ R, VR (SF C.fs) C.K R z z)
    (hxo : okX C.fs x = true) (hx : (Go.Act.mk tmps []).eval x = .chan (some g)) (hK : C.K g c) (hnd : ∀ s, o.dst = some s → s ∉ C.S) (hact : C.A.act l = .recv c okv nx sh)
    (h1 : ∀ v, okv v → ∃ vg, (∀ R, VR (SF C.fs) C.K R vg v) ∧ BO C (nx v) ⟨fn, (Go.Act.put ⟨tmps, []⟩ o.dst (recvd ok vg true)).tmps, .inRegion ops rest :: k, false⟩ w)
    (h2 : C.A.cl l → BO C sh ⟨fn, (Go.Act.put ⟨tmps, []⟩ o.dst (recvd ok z false)).tmps, .inRegion ops rest :: k, false⟩ w) : BO C l ⟨fn, tmps, .inRegion ops (i :: rest) :: k, false⟩ w := by
  intro R W m' τ hw hm ht hi
  obtain ⟨fn', tmps', todo', ret'⟩ := m'
  obtain rfl := hm.fn
  obtain rfl := hm.todo
  obtain rfl := hm.ret
  have hx' : (Go.Act.mk tmps' C.ds.ds).eval x = .chan (some c) := chan_rel hw hK (hx ▸ eval_rel (C := C) hm.tmps hxo)
  have hwt' := wanted_rel (C := C) hm.tmps hwt
  have hb : (C.ds.base fn).kind ≠ .early := C.ds.ok
  have rec' : ∀ vg v' b, VR (SF C.fs) C.K R vg v' → VR (SF C.fs) C.K R (recvd ok vg b) (recvd ok v' b) := fun vg v' b h => by
    unfold recvd
    cases ok with
    | false => exact h
    | true =>
      simp only [if_true]
      exact VR.tuple' (by
        have := ArR.empty (S := SF C.fs) (K := C.K) (R := R)
        exact (this.push h).push (.bool b))
  have goon : ∀ {l' : L} {vg v' : Value}, VR (SF C.fs) C.K R vg v' → BO C l' ⟨fn, (Go.Act.put ⟨tmps, []⟩ o.dst vg).tmps, .inRegion ops rest :: k, false⟩ w →
      C.B l' τ (Conc.served (G ((C.ds.base fn).at ⟨tmps', C.ds.ds⟩ (.inRegion ops (i :: rest) :: k)) C.base) v') W := fun {l' vg v'} hv hB => by
    rw [served_fx ho]
    exact hB R W _ τ hw ⟨rfl, rfl, rfl, put_rel (C := C) hm.tmps hv, put_pins (C := C) hm.pins hnd⟩ ht hi
  rw [fx_at]
  refine BehE.usr rfl ?_
  unfold AtUsr
  rw [hact]
  refine ⟨rfl, z, ok, fun w₁ s => ?_, fun v hv => ?_, fun hcl => ?_⟩
  · obtain ⟨e1, e2⟩ := exec_recv (p := C.p) (ρ := (Go.Act.mk tmps' C.ds.ds).eval) hop hct hie hz hx' w₁
    rw [stepG_comm ho hwt' hb e1]
    unfold listed
    rw [e2, Conc.seen_none]
  · obtain ⟨vg, hvg, hB⟩ := h1 v hv
    exact goon (rec' _ _ _ (hvg R)) hB
  · exact goon (rec' _ _ _ (hzr R)) (h2 hcl)
/-- A SEND. -/
theorem BO.send (hI : IOk C) {fn : FuncId} {tmps : Array Value} {ops : Array Oper} {i : Nat} {rest : List Nat} {k : List Item} {w : World} {o : Oper} {x y : Operand} {c g : Nat} {okv : Value → Prop} {pub : Value → List Nat} {nx : Value → L} {l' : L}
    (ho : ops[i]? = some o) (hwt : Region.wanted o (yielded ops tmps) = true) (hop : o.op = .send x y)
    (hxo : okX C.fs x = true) (hx : (Go.Act.mk tmps []).eval x = .chan (some g)) (hK : C.K g c) (hyo : okX C.fs y = true) (hnd : ∀ s, o.dst = some s → s ∉ C.S) (hact : C.A.act l = .send c okv pub nx)
    (hv : ∀ R v', VR (SF C.fs) C.K R ((Go.Act.mk tmps []).eval y) v' → okv v' ∧ pub v' = [] ∧ nx v' = l')
    (h1 : BO C l' ⟨fn, (Go.Act.put ⟨tmps, []⟩ o.dst undef).tmps, .inRegion ops rest :: k, false⟩ w) : BO C l ⟨fn, tmps, .inRegion ops (i :: rest) :: k, false⟩ w := by
  intro R W m' τ hw hm ht hi
  obtain ⟨fn', tmps', todo', ret'⟩ := m'
  obtain rfl := hm.fn
  obtain rfl := hm.todo
  obtain rfl := hm.ret
  have hx' : (Go.Act.mk tmps' C.ds.ds).eval x = .chan (some c) := chan_rel hw hK (hx ▸ eval_rel (C := C) hm.tmps hxo)
  have hwt' := wanted_rel (C := C) hm.tmps hwt
  have hb : (C.ds.base fn).kind ≠ .early := C.ds.ok
  obtain ⟨k1, k2, k3⟩ := hv R _ (eval_rel (C := C) (d := C.ds.ds) hm.tmps hyo)
  rw [fx_at]
  refine BehE.usr rfl ?_
  unfold AtUsr
  rw [hact]
  refine ⟨rfl, _, .tuple #[], τ, fun w₁ s => ?_, k1, fun b h => h, rfl, fun b h => .inl h, (fun a ha => by rw [k2] at ha; cases ha), ?_⟩
  · obtain ⟨e1, e2⟩ := exec_send (p := C.p) (ρ := (Go.Act.mk tmps' C.ds.ds).eval) hop hx' rfl w₁
    rw [stepG_comm ho hwt' hb e1]
    unfold listed
    rw [e2, Conc.seen_none]
  · rw [k3, served_fx ho]
    exact h1 R W _ τ hw ⟨rfl, rfl, rfl, put_rel (C := C) hm.tmps vr_undef, put_pins (C := C) hm.pins hnd⟩ ht hi
end
end Go.Mt
namespace Go.Mt
open Go.Conc
set_option linter.unusedVariables false
inductive PpL where
  | m0 | m1 | rv (k : Nat) | wt | sd (k : Nat) | dn
def pipeAct (c n : Nat) (val : Nat → Value) : PpL → Act PpL
  | .m0 => .add .m1
  | .m1 => .spawn [c] (.sd 0) (.rv 0)
  | .rv k => .recv c (fun v => k < n ∧ v = val k) (fun _ => .rv (k + 1)) .wt
  | .wt => .wait
  | .sd k => if k < n then .send c (fun v => v = val k) (fun _ => []) (fun _ => .sd (k + 1)) else .close c .dn
  | .dn => .done
def PpL.pend : PpL → Bool | .m1 => true | _ => false
inductive PipeInv (c n : Nat) (q : Nat → Pj PpL) (ch : Chs) : Prop
  | a (l : PpL) : (l = .m0 ∨ l = .m1) → q 0 = .run l → (∀ i, i ≠ 0 → q i = .gone) → PipeInv c n q ch
  | b (j k : Nat) : j ≠ 0 → (∀ i, i ≠ 0 → i ≠ j → q i = .gone) → k ≤ n → q 0 = .run (.rv k) → q j = .run (.sd k) → ch c = some false → PipeInv c n q ch
  | d (j : Nat) : j ≠ 0 → (∀ i, i ≠ 0 → i ≠ j → q i = .gone) → ch c = some true → (q 0 = .run (.rv n) ∨ q 0 = .run .wt ∨ q 0 = .waits) → (q j = .run .dn ∨ q j = .over .dn) → PipeInv c n q ch
def pipe (c n : Nat) (val : Nat → Value) : Proto PpL where
  act := pipeAct c n val
  dep := fun _ _ => True
  pend := PpL.pend
  cl := fun l => l = .rv n
  Inv := PipeInv c n
theorem num_two {L : Type} {q : Nat → Pj L} {j : Nat} (h : ∀ i, i ≠ 0 → i ≠ j → q i = .gone) : ∀ n, num q n ≤ (if 0 < n then 1 else 0) + (if j < n then 1 else 0) := by
  intro n
  induction n with
  | zero => simp [num]
  | succ n ih =>
    simp only [num]
    have hc : (q n).c ≤ 1 := by cases q n <;> simp [Pj.c]
    by_cases h0 : n = 0
    · subst h0; simp [num] at ih ⊢; omega
    · by_cases hj : n = j
      · subst hj
        have : 0 < n := by omega
        simp [this] at ih ⊢; omega
      · rw [h n h0 hj]
        have : (0 < n) ↔ (0 < n + 1) := by omega
        simp only [Pj.c]
        split at ih <;> split at ih <;> split <;> split <;> omega
section
variable {c n : Nat} {val : Nat → Value} {q : Nat → Pj PpL} {ch : Chs}
/-- Who runs where. -/
theorem PipeInv.who (h : PipeInv c n q ch) {i : Nat} {l : PpL} (hi : q i = .run l) :
    (i = 0 ∧ (l = .m0 ∨ l = .m1)) ∨ (∃ k, k ≤ n ∧ ch c = some false ∧ ((i = 0 ∧ l = .rv k) ∨ (i ≠ 0 ∧ l = .sd k)) ∧ ∃ j, j ≠ 0 ∧ q 0 = .run (.rv k) ∧ q j = .run (.sd k)) ∨ (ch c = some true ∧ ((i = 0 ∧ (l = .rv n ∨ l = .wt)) ∨ (i ≠ 0 ∧ l = .dn))) := by
  cases h with
  | a l' hl h0 hg =>
    by_cases e : i = 0
    · subst e; rw [h0] at hi; cases hi; exact .inl ⟨rfl, hl⟩
    · rw [hg i e] at hi; cases hi
  | b j k hj hg hk h0 hjr hc =>
    by_cases e : i = 0
    · subst e; rw [h0] at hi; cases hi; exact .inr (.inl ⟨k, hk, hc, .inl ⟨rfl, rfl⟩, j, hj, h0, hjr⟩)
    · by_cases e2 : i = j
      · subst e2; rw [hjr] at hi; cases hi; exact .inr (.inl ⟨k, hk, hc, .inr ⟨e, rfl⟩, i, hj, h0, hjr⟩)
      · rw [hg i e e2] at hi; cases hi
  | d j hj hg hc h0 hjr =>
    by_cases e : i = 0
    · subst e
      rcases h0 with h0 | h0 | h0 <;> rw [h0] at hi <;> cases hi
      · exact .inr (.inr ⟨hc, .inl ⟨rfl, .inl rfl⟩⟩)
      · exact .inr (.inr ⟨hc, .inl ⟨rfl, .inr rfl⟩⟩)
    · by_cases e2 : i = j
      · subst e2
        rcases hjr with hjr | hjr <;> rw [hjr] at hi <;> cases hi
        exact .inr (.inr ⟨hc, .inr ⟨e, rfl⟩⟩)
      · rw [hg i e e2] at hi; cases hi
theorem pipeAct_send {l : PpL} {c' : Nat} {ok : Value → Prop} {pub : Value → List Nat} {nx : Value → PpL} (h : pipeAct c n val l = .send c' ok pub nx) : ∃ k, l = .sd k ∧ k < n ∧ c' = c ∧ ok = (fun v => v = val k) ∧ pub = (fun _ => []) ∧ nx = fun _ => .sd (k + 1) := by
  cases l with
  | sd k =>
    simp only [pipeAct] at h
    split at h
    · next hk => cases h; exact ⟨k, rfl, hk, rfl, rfl, rfl, rfl⟩
    · cases h
  | _ => simp [pipeAct] at h
theorem pipeAct_recv {l : PpL} {c' : Nat} {ok : Value → Prop} {nx : Value → PpL} {sh : PpL} (h : pipeAct c n val l = .recv c' ok nx sh) : ∃ k, l = .rv k ∧ c' = c ∧ ok = (fun v => k < n ∧ v = val k) ∧ nx = (fun _ => .rv (k + 1)) ∧ sh = .wt := by
  cases l with
  | rv k => simp only [pipeAct] at h; cases h; exact ⟨k, rfl, rfl, rfl, rfl, rfl⟩
  | sd k => simp only [pipeAct] at h; split at h <;> cases h
  | _ => simp [pipeAct] at h
theorem pipeAct_close {l : PpL} {c' : Nat} {nx : PpL} (h : pipeAct c n val l = .close c' nx) : ∃ k, l = .sd k ∧ ¬ k < n ∧ c' = c ∧ nx = .dn := by
  cases l with
  | sd k =>
    simp only [pipeAct] at h
    split at h
    · cases h
    · next hk => cases h; exact ⟨k, rfl, hk, rfl, rfl⟩
  | _ => simp [pipeAct] at h
theorem pipeAct_add {l nx : PpL} (h : pipeAct c n val l = .add nx) : l = .m0 ∧ nx = .m1 := by
  cases l with
  | m0 => simp only [pipeAct] at h; cases h; exact ⟨rfl, rfl⟩
  | sd k => simp only [pipeAct] at h; split at h <;> cases h
  | _ => simp [pipeAct] at h
theorem pipeAct_spawn {l lc nx : PpL} {pub : List Nat} (h : pipeAct c n val l = .spawn pub lc nx) : l = .m1 ∧ pub = [c] ∧ lc = .sd 0 ∧ nx = .rv 0 := by
  cases l with
  | m1 => simp only [pipeAct] at h; cases h; exact ⟨rfl, rfl, rfl, rfl⟩
  | sd k => simp only [pipeAct] at h; split at h <;> cases h
  | _ => simp [pipeAct] at h
theorem pipeAct_done {l : PpL} (h : pipeAct c n val l = .done) : l = .dn := by
  cases l with
  | dn => rfl
  | sd k => simp only [pipeAct] at h; split at h <;> cases h
  | _ => simp [pipeAct] at h
theorem pipeAct_wait {l : PpL} (h : pipeAct c n val l = .wait) : l = .wt := by
  cases l with
  | wt => rfl
  | sd k => simp only [pipeAct] at h; split at h <;> cases h
  | _ => simp [pipeAct] at h
theorem pipe_ok (c n : Nat) (val : Nat → Value) : (pipe c n val).Ok where
  send1 := by
    intro q ch i j li lj c' ok pub nx ok' pub' nx' hI hi hj ha hb
    obtain ⟨k, rfl, _⟩ := pipeAct_send (c := c) (n := n) (val := val) ha
    obtain ⟨k', rfl, _⟩ := pipeAct_send (c := c) (n := n) (val := val) hb
    cases hI with
    | a l' hl h0 hg =>
      have : i = 0 := Classical.byContradiction fun e => by rw [hg i e] at hi; cases hi
      subst this; rw [h0] at hi; cases hi; rcases hl with h | h <;> cases h
    | b j' k2 hj' hg hk h0 hjr hc =>
      have e1 : i = j' := Classical.byContradiction fun e => by
        by_cases e0 : i = 0
        · subst e0; rw [h0] at hi; cases hi
        · rw [hg i e0 e] at hi; cases hi
      have e2 : j = j' := Classical.byContradiction fun e => by
        by_cases e0 : j = 0
        · subst e0; rw [h0] at hj; cases hj
        · rw [hg j e0 e] at hj; cases hj
      rw [e1, e2]
    | d j' hj' hg hc h0 hjr =>
      exfalso
      rcases PipeInv.who (.d j' hj' hg hc h0 hjr) hi with ⟨_, h | h⟩ | ⟨_, _, h, _⟩ | ⟨_, ⟨_, h | h⟩ | ⟨_, h⟩⟩
      · cases h
      · cases h
      · rw [hc] at h; cases h
      · cases h
      · cases h
      · cases h
  recv1 := by
    intro q ch i j li lj c' ok nx sh ok' nx' sh' hI hi hj ha hb
    obtain ⟨k, rfl, _⟩ := pipeAct_recv (c := c) (n := n) (val := val) ha
    obtain ⟨k', rfl, _⟩ := pipeAct_recv (c := c) (n := n) (val := val) hb
    have key : ∀ {i k}, q i = .run (.rv k) → i = 0 := fun {i k} h => by
      rcases hI.who h with ⟨e, _⟩ | ⟨_, _, _, ⟨e, _⟩ | ⟨_, e⟩, _⟩ | ⟨_, ⟨e, _⟩ | ⟨_, e⟩⟩
      · exact e
      · exact e
      · cases e
      · exact e
      · cases e
    rw [key hi, key hj]
  sendC := by
    intro q ch i l c' ok pub nx hI hi ha
    obtain ⟨k, rfl, _, rfl, _⟩ := pipeAct_send (c := c) (n := n) (val := val) ha
    rcases hI.who hi with ⟨_, h | h⟩ | ⟨_, _, h, _⟩ | ⟨_, ⟨_, h | h⟩ | ⟨_, h⟩⟩
    · cases h
    · cases h
    · exact h
    · cases h
    · cases h
    · cases h
  recvC := by
    intro q ch i l c' ok nx sh hI hi ha
    obtain ⟨k, rfl, rfl, _⟩ := pipeAct_recv (c := c) (n := n) (val := val) ha
    rcases hI.who hi with ⟨_, h | h⟩ | ⟨_, _, h, _⟩ | ⟨h, _⟩
    · cases h
    · cases h
    · exact ⟨_, h⟩
    · exact ⟨_, h⟩
  meet := by
    intro q ch i j li lj c' ok pub nx ok' nx' sh v hI hi hj ha hb hv hp
    obtain ⟨k, rfl, hk, rfl, rfl, rfl, rfl⟩ := pipeAct_send (c := c) (n := n) (val := val) ha
    obtain ⟨k', rfl, _, rfl, rfl, rfl⟩ := pipeAct_recv (c := c') (n := n) (val := val) hb
    cases hI with
    | a l' hl h0 hg =>
      have : i = 0 := Classical.byContradiction fun e => by rw [hg i e] at hi; cases hi
      subst this; rw [h0] at hi; cases hi; rcases hl with h | h <;> cases h
    | b j' k2 hj' hg hk2 h0 hjr hc =>
      have e1 : i = j' := Classical.byContradiction fun e => by
        by_cases e0 : i = 0
        · subst e0; rw [h0] at hi; cases hi
        · rw [hg i e0 e] at hi; cases hi
      subst e1
      rw [hjr] at hi; cases hi
      have e2 : j = 0 := Classical.byContradiction fun e => by
        by_cases e0 : j = i
        · subst e0; rw [hjr] at hj; cases hj
        · rw [hg j e e0] at hj; cases hj
      subst e2
      rw [h0] at hj; cases hj
      refine ⟨⟨hk, hv⟩, ?_⟩
      refine .b i (k + 1) hj' (fun a h1 h2 => ?_) hk ?_ ?_ ?_
      · rw [upd_ne _ _ h1, upd_ne _ _ h2]; exact hg a h1 h2
      · rw [upd_same]
      · rw [upd_ne _ _ hj', upd_same]
      · simp [Chs.opn, hc]
    | d j' hj' hg hc h0 hjr =>
      exfalso
      rcases PipeInv.who (.d j' hj' hg hc h0 hjr) hi with ⟨_, h | h⟩ | ⟨_, _, h, _⟩ | ⟨_, ⟨_, h | h⟩ | ⟨_, h⟩⟩
      · cases h
      · cases h
      · rw [hc] at h; cases h
      · cases h
      · cases h
      · cases h
  shut := by
    intro q ch i l c' ok nx sh hI hi ha hc1
    obtain ⟨k, rfl, rfl, rfl, rfl, rfl⟩ := pipeAct_recv (c := c) (n := n) (val := val) ha
    cases hI with
    | a l' hl h0 hg =>
      have : i = 0 := Classical.byContradiction fun e => by rw [hg i e] at hi; cases hi
      subst this; rw [h0] at hi; cases hi; rcases hl with h | h <;> cases h
    | b j' k2 hj' hg hk2 h0 hjr hc => rw [hc] at hc1; cases hc1
    | d j' hj' hg hc h0 hjr =>
      have e2 : i = 0 := Classical.byContradiction fun e => by
        by_cases e0 : i = j'
        · subst e0; rcases hjr with hjr | hjr <;> rw [hjr] at hi <;> cases hi
        · rw [hg i e e0] at hi; cases hi
      subst e2
      have hkn : k = n := by rcases h0 with h0 | h0 | h0 <;> rw [h0] at hi <;> cases hi; rfl
      refine ⟨by rw [hkn]; rfl, .d j' hj' (fun a h1 h2 => ?_) hc (.inr (.inl (upd_same _ _ _))) ?_⟩
      · rw [upd_ne _ _ h1]; exact hg a h1 h2
      · rw [upd_ne _ _ hj']; exact hjr
  close := by
    intro q ch i l c' nx hI hi ha
    obtain ⟨k, rfl, hk, rfl, rfl⟩ := pipeAct_close (c := c) (n := n) (val := val) ha
    cases hI with
    | a l' hl h0 hg =>
      have : i = 0 := Classical.byContradiction fun e => by rw [hg i e] at hi; cases hi
      subst this; rw [h0] at hi; cases hi; rcases hl with h | h <;> cases h
    | b j' k2 hj' hg hk2 h0 hjr hc =>
      have e1 : i = j' := Classical.byContradiction fun e => by
        by_cases e0 : i = 0
        · subst e0; rw [h0] at hi; cases hi
        · rw [hg i e0 e] at hi; cases hi
      subst e1
      rw [hjr] at hi; cases hi
      have : k = n := by omega
      subst this
      refine ⟨hc, .d i hj' (fun a h1 h2 => ?_) (upd_same _ _ _) (.inl ?_) (.inl (upd_same _ _ _))⟩
      · rw [upd_ne _ _ h2]; exact hg a h1 h2
      · rw [upd_ne _ _ (Ne.symm hj')]; exact h0
    | d j' hj' hg hc h0 hjr =>
      exfalso
      rcases PipeInv.who (.d j' hj' hg hc h0 hjr) hi with ⟨_, h | h⟩ | ⟨_, _, h, _⟩ | ⟨_, ⟨_, h | h⟩ | ⟨_, h⟩⟩
      · cases h
      · cases h
      · rw [hc] at h; cases h
      · cases h
      · cases h
      · cases h
  add := by
    intro q ch i l nx hI hi ha
    obtain ⟨rfl, rfl⟩ := pipeAct_add (c := c) (n := n) (val := val) ha
    cases hI with
    | a l' hl h0 hg =>
      have : i = 0 := Classical.byContradiction fun e => by rw [hg i e] at hi; cases hi
      subst this
      refine ⟨rfl, rfl, rfl, .a .m1 (.inr rfl) (upd_same _ _ _) fun a h => ?_⟩
      rw [upd_ne _ _ h]; exact hg a h
    | b j' k2 hj' hg hk2 h0 hjr hc =>
      exfalso
      by_cases e0 : i = 0
      · subst e0; rw [h0] at hi; cases hi
      · by_cases e1 : i = j'
        · subst e1; rw [hjr] at hi; cases hi
        · rw [hg i e0 e1] at hi; cases hi
    | d j' hj' hg hc h0 hjr =>
      exfalso
      rcases PipeInv.who (.d j' hj' hg hc h0 hjr) hi with ⟨e, _⟩ | ⟨_, _, h, _⟩ | ⟨_, ⟨_, h | h⟩ | ⟨_, h⟩⟩
      · subst e; rcases h0 with h0 | h0 | h0 <;> rw [h0] at hi <;> cases hi
      · rw [hc] at h; cases h
      · cases h
      · cases h
      · cases h
  spawn := by
    intro q ch i l pub lc nx k hI hi ha
    obtain ⟨rfl, rfl, rfl, rfl⟩ := pipeAct_spawn (c := c) (n := n) (val := val) ha
    cases hI with
    | a l' hl h0 hg =>
      have : i = 0 := Classical.byContradiction fun e => by rw [hg i e] at hi; cases hi
      subst this
      refine ⟨rfl, rfl, rfl, fun hk hk0 _ => .b k 0 hk0 (fun a h1 h2 => ?_) (Nat.zero_le _) ?_ (upd_same _ _ _) (by simp [Chs.opn])⟩
      · rw [upd_ne _ _ h2, upd_ne _ _ h1]; exact hg a h1
      · rw [upd_ne _ _ (Ne.symm hk0), upd_same]
    | b j' k2 hj' hg hk2 h0 hjr hc =>
      exfalso
      by_cases e0 : i = 0
      · subst e0; rw [h0] at hi; cases hi
      · by_cases e1 : i = j'
        · subst e1; rw [hjr] at hi; cases hi
        · rw [hg i e0 e1] at hi; cases hi
    | d j' hj' hg hc h0 hjr =>
      exfalso
      rcases PipeInv.who (.d j' hj' hg hc h0 hjr) hi with ⟨e, _⟩ | ⟨_, _, h, _⟩ | ⟨_, ⟨_, h | h⟩ | ⟨_, h⟩⟩
      · subst e; rcases h0 with h0 | h0 | h0 <;> rw [h0] at hi <;> cases hi
      · rw [hc] at h; cases h
      · cases h
      · cases h
      · cases h
  done := by
    intro q ch i l hI hi ha
    obtain rfl := pipeAct_done (c := c) (n := n) (val := val) ha
    cases hI with
    | a l' hl h0 hg =>
      have : i = 0 := Classical.byContradiction fun e => by rw [hg i e] at hi; cases hi
      subst this; rw [h0] at hi; cases hi; rcases hl with h | h <;> cases h
    | b j' k2 hj' hg hk2 h0 hjr hc =>
      exfalso
      by_cases e0 : i = 0
      · subst e0; rw [h0] at hi; cases hi
      · by_cases e1 : i = j'
        · subst e1; rw [hjr] at hi; cases hi
        · rw [hg i e0 e1] at hi; cases hi
    | d j' hj' hg hc h0 hjr =>
      have e0 : i ≠ 0 := fun e => by subst e; rcases h0 with h0 | h0 | h0 <;> rw [h0] at hi <;> cases hi
      have e1 : i = j' := Classical.byContradiction fun e => by rw [hg i e0 e] at hi; cases hi
      subst e1
      refine ⟨e0, .d i hj' (fun a h1 h2 => ?_) hc ?_ (.inr (upd_same _ _ _))⟩
      · rw [upd_ne _ _ h2]; exact hg a h1 h2
      · rw [upd_ne _ _ (Ne.symm e0)]; exact h0
  wait := by
    intro q ch i l hI hi ha
    obtain rfl := pipeAct_wait (c := c) (n := n) (val := val) ha
    cases hI with
    | a l' hl h0 hg =>
      have : i = 0 := Classical.byContradiction fun e => by rw [hg i e] at hi; cases hi
      subst this; rw [h0] at hi; cases hi; rcases hl with h | h <;> cases h
    | b j' k2 hj' hg hk2 h0 hjr hc =>
      exfalso
      by_cases e0 : i = 0
      · subst e0; rw [h0] at hi; cases hi
      · by_cases e1 : i = j'
        · subst e1; rw [hjr] at hi; cases hi
        · rw [hg i e0 e1] at hi; cases hi
    | d j' hj' hg hc h0 hjr =>
      have e0 : i = 0 := Classical.byContradiction fun e => by
        by_cases e1 : i = j'
        · subst e1; rcases hjr with hjr | hjr <;> rw [hjr] at hi <;> cases hi
        · rw [hg i e e1] at hi; cases hi
      subst e0
      refine ⟨rfl, rfl, .d j' hj' (fun a h1 h2 => ?_) hc (.inr (.inr (upd_same _ _ _))) ?_⟩
      · rw [upd_ne _ _ h1]; exact hg a h1 h2
      · rw [upd_ne _ _ hj']; exact hjr
  prog := by
    intro q ch hI hB
    cases hI with
    | a l' hl h0 hg =>
      exfalso
      have := hB 0 l' h0
      rcases hl with rfl | rfl <;> exact this
    | b j' k2 hj' hg hk2 h0 hjr hc =>
      exfalso
      have h1 := hB j' _ hjr
      unfold Proto.Blocked pipe at h1
      simp only [pipeAct] at h1
      by_cases hk : k2 < n
      · simp only [hk, if_true] at h1
        exact h1 ⟨0, .rv k2, _, _, _, h0, rfl⟩
      · simp only [hk, if_false] at h1
    | d j' hj' hg hc h0 hjr =>
      have hj2 : q j' = .over .dn := hjr.resolve_left fun e => by exact hB j' _ e
      rcases h0 with h0 | h0 | h0
      · exfalso
        have h1 := hB 0 _ h0
        unfold Proto.Blocked pipe at h1
        simp only [pipeAct] at h1
        rw [hc] at h1
        exact absurd h1.1 (by simp)
      · exfalso; exact hB 0 _ h0
      · refine ⟨h0, fun i l h => ?_⟩
        by_cases e0 : i = 0
        · subst e0; rw [h0] at h; cases h
        · by_cases e1 : i = j'
          · subst e1; rw [hj2] at h; cases h
          · rw [hg i e0 e1] at h; cases h
  pendC := by
    intro l l' c' v ok pub nx ha hl
    obtain ⟨k, rfl, hk, rfl, rfl, rfl, rfl⟩ := pipeAct_send (c := c) (n := n) (val := val) ha
    subst hl; rfl
  pendR := by
    intro l l' c' v ok nx sh ha hl
    obtain ⟨k, rfl, rfl, rfl, rfl, rfl⟩ := pipeAct_recv (c := c) (n := n) (val := val) ha
    rcases hl with rfl | rfl <;> rfl
  pendX := by
    intro l c' nx ha
    obtain ⟨k, rfl, hk, rfl, rfl⟩ := pipeAct_close (c := c) (n := n) (val := val) ha
    rfl
  few := by
    intro q ch hI m
    have : ∃ j, ∀ i, i ≠ 0 → i ≠ j → q i = .gone := by
      cases hI with
      | a l' hl h0 hg => exact ⟨0, fun i h _ => hg i h⟩
      | b j' k2 hj' hg hk2 h0 hjr hc => exact ⟨j', hg⟩
      | d j' hj' hg hc h0 hjr => exact ⟨j', hg⟩
    obtain ⟨j, hj⟩ := this
    have := num_two hj m
    split at this <;> split at this <;> omega
end
end Go.Mt
