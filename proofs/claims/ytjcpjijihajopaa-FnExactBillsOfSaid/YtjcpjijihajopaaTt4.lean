/-
  A lone run that comes to its end has gone by such steps alone.
  From a contract on every tape to a tree.
  Trees with stops of their own; a tree under a text's rest and other frames.
-/
import Derived.Test.YtjcpjijihajopaaTt3
import Derived.Conc.LoneCalls
import Derived.Conc.Beside
set_option linter.unusedSectionVars false
set_option linter.unusedSimpArgs false
set_option linter.unusedVariables false
namespace Go.Tt
open Go.Conc (G solo)
set_option linter.unusedVariables false
def nilD : Deferred := { target := .nil, args := #[] }
/-- Whoever comes back to this frame ends the run. -/
def pz : Frame := { (default : Frame) with mode := .panicking [], defers := [nilD], kind := .normal }
section
variable {P : Pair} {fs : FuncId → Bool} {K R : Pr} {G' : Nat} {St : Nat → Prop}
theorem bad_of_stuck (F : Fit2 P fs) (hG : G' = P.globals.size) {w W : World} (hw : WRel (SF fs) K R G' St w W) (ht : Tp w W) {m m' : Fm} {ms ms' : List Fm} (hm : FmR P fs K R m m') (hms : MsR P fs K R ms ms') (hstop : m.ret = true → ms ≠ [])
    (hno : ∀ x w', (stepS P.g m ms).run P.g w ≠ .ok x w') (base : List Frame) :
    (∃ o w1 es, stepG P.g true (G m.fr (ms.map Fm.fr ++ base)) w = .ended o w1 es) ∨
    ∃ x w1 es, stepG P.g true (G m.fr (ms.map Fm.fr ++ base)) w = .go (G x (ms.map Fm.fr ++ base)) w1 es ∧ (∃ c, x.mode = .panicking c) ∧ x.defers = [] := by
  have hR : RelOk P K R := ⟨hw.inj, hw.inj', fun a b h => hG ▸ (hw.low a b h).1⟩
  unfold stepS at hno
  by_cases hr : m.ret = true
  · simp only [hr, if_true] at hno
    cases hms with
    | nil => exact absurd rfl (hstop hr)
    | cons hc hwt hrest =>
      rename_i c c' rest rest'
      obtain ⟨_, ops, i, r, k, hk⟩ := hwt
      obtain ⟨fn, fn', e1, e2, e3, e4⟩ := hm.infs
      have he : results fn m.tmps = resS fn.results.toList m.tmps := results_resS e4
      cases hx : (resS fn.results.toList m.tmps).run P.g w with
      | ok v w1 => exact absurd (retS_mk (rest := rest) hk e1 hx).1 (hno _ _)
      | halt y w1 =>
        refine .inl ?_
        rw [Fm.fr_ret hr]
        cases y <;> exact ⟨_, _, _, by simp only [G, stepG, unwind, e1, he, Sem.runT_eq, hx, GStep.after]; rfl⟩
  · have hr0 : m.ret = false := by simpa using hr
    simp only [hr0, Bool.false_eq_true, if_false] at hno
    have hev : m.fr.eval = m.eval := m.eval_fr
    have hfit := hm.fit
    have hmt := hm.tmps
    have hme := hm.eval
    obtain ⟨fn, tmps, todo, ret⟩ := m
    simp only at hr0 hfit hmt
    subst hr0
    unfold runS at hno
    simp only at hno
    cases todo with
    | nil => exact absurd rfl (hno _ _)
    | cons x k =>
      have hx : fitItem P.c (cls P fs fn) x = true := hfit x (by simp)
      cases x with
      | code c =>
        cases c with
        | skip => exact absurd rfl (hno _ _)
        | label l => exact absurd rfl (hno _ _)
        | ret => exact absurd rfl (hno _ _)
        | seq a b => exact absurd rfl (hno _ _)
        | block id body => exact absurd rfl (hno _ _)
        | loop body => exact absurd rfl (hno _ _)
        | scope body => exact absurd rfl (hno _ _)
        | cond c a b =>
          have hc := congrFun hev c
          simp only at hno
          cases hv : Fm.eval { fn := fn, tmps := tmps, todo := Item.code (Code.cond c a b) :: k, ret := false } c with
          | bool t => rw [hv] at hno; exact absurd rfl (hno _ _)
          | _ =>
            left
            rw [hv] at hc
            simp only [Fm.fr, Bool.false_eq_true, if_false] at hc ⊢
            simp only [G, stepG, stepG.exec, hc]
            exact ⟨_, _, _, rfl⟩
        | exit id =>
          simp only at hno
          cases he : exitTo id k with
          | some k' => rw [he] at hno; exact absurd rfl (hno _ _)
          | none =>
            left
            simp only [Fm.fr, Bool.false_eq_true, if_false]
            simp [G, stepG, stepG.exec, he]
        | region id ops draw =>
          simp only at hno
          cases draw with
          | true => exact absurd (by simp [choose, Sem.run, Question.forced, Question.cut, bind, Sem.bind, pure]; exact ⟨rfl, rfl⟩) (hno _ _)
          | false => exact absurd rfl (hno _ _)
        | _ => cases hx
      | inBlock id => exact absurd rfl (hno _ _)
      | inScope c => exact absurd rfl (hno _ _)
      | inLoop c => exact absurd rfl (hno _ _)
      | inRegion ops l =>
        cases l with
        | nil => exact absurd rfl (hno _ _)
        | cons i rest =>
          simp only at hno
          cases ho : ops[i]? with
          | none => rw [ho] at hno; exact absurd rfl (hno _ _)
          | some o =>
            rw [ho] at hno
            simp only [Option.map_some, Option.getD_some] at hno
            by_cases hw' : Region.wanted o (yielded ops tmps) = true
            · rw [if_pos hw'] at hno
              have hok : okOp P.c (cls P fs fn) o.op = true := by
                have hx' := Array.all_eq_true.1 hx i (Array.getElem?_eq_some_iff.1 ho).1
                rwa [(Array.getElem?_eq_some_iff.1 ho).2] at hx'
              have hsim := sim_execOp F.toFit hR hme (fun g => rfl) (fun g => rfl) (cls_fs P fs fn) (cls_gs F.toFit fn) (cls_dy F.toFit fn) hok
              have hrb : ∀ x w', ((execOp (Fm.eval { fn := fn, tmps := tmps, todo := Item.inRegion ops (i :: rest) :: k, ret := false }) o).bind (opS P.g { fn := fn, tmps := tmps, todo := Item.inRegion ops (i :: rest) :: k, ret := false } ms ops i rest k)).run P.g w ≠ .ok x w' := hno
              rcases Sim.tame hG _ hsim hw ht with ⟨n, w1, hn⟩ | ⟨h, w1, hn, hth⟩
              · exfalso
                obtain ⟨R1, n', W1, ev, e1, e2, e3, e4, e5⟩ := Sim.run hG _ hsim hw ht hn
                have := fun x w' => hrb x w'
                simp only [Sem.run_bind', hn, Result.andThen] at this
                cases e2 with
                | value hv => exact this _ _ rfl
                | skip => exact this _ _ rfl
                | enter hT ha =>
                  rename_i f xs xs'
                  have hf : P.gs f = true := cls_gs F.toFit fn f hT
                  cases ho2 : P.op f with
                  | false =>
                    obtain ⟨fn', c, q1, q2, q3, q4, q5⟩ := F.fn f hf ho2
                    simp only [opS, q1, q4] at this
                    exact this _ _ rfl
                  | true =>
                    obtain ⟨fn1, fn2, c1, c2, q1, q2, q3, q4, q5, q6⟩ := F.opq f hf ho2
                    simp only [opS, q1, q5] at this
                    exact this _ _ rfl
              · have hae : Act.eval ⟨tmps, []⟩ = Fm.eval { fn := fn, tmps := tmps, todo := Item.inRegion ops (i :: rest) :: k, ret := false } := funext fun x => by cases x <;> rfl
                have hop := Conc.stepG_oper (P := P.g) (main := true) (b := Conc.base fn) (a := ⟨tmps, []⟩) (k := k) (cs := List.map Fm.fr ms ++ base) (w := w) (rest := rest) ho hw'
                have hfr : (Fm.fr { fn := fn, tmps := tmps, todo := Item.inRegion ops (i :: rest) :: k, ret := false }) = (Conc.base fn).at ⟨tmps, []⟩ (.inRegion ops (i :: rest) :: k) := rfl
                rw [hfr, hop, hae]
                cases h with
                | panic v =>
                  right
                  simp [stepG.apply, hn, GStep.after, G, Frame.raise, Frame.at]
                | stuck s => left; simp [stepG.apply, hn, GStep.after]
                | unsupported u =>
                  left
                  cases u <;> first | exact hth.elim | simp [stepG.apply, hn, GStep.after]
                | _ => exact hth.elim
            · rw [if_neg hw'] at hno
              exact absurd rfl (hno _ _)
      | _ => cases hx
theorem step_solo_ended {p : Program} {a : Goroutine} {w w' : World} {o : Outcome} {es : Array Event} (hs : a.status = .running) (h : stepG p true a w = .ended o w' es) : step p (solo a w) = .ended o w' := by
  rw [step, Conc.stepT_solo hs, Conc.solo_eq_crowd, Conc.runT_many_ended (i := 0) rfl h]
theorem runN_next {p : Program} {m m' : Machine} (h : step p m = .next m') (n : Nat) : runN p (n + 1) m = runN p n m' := by simp [runN, h]
theorem runN_end {p : Program} {m : Machine} {o : Outcome} {w : World} (h : step p m = .ended o w) (n : Nat) : runN p (n + 1) m = .ended o w := by simp [runN, h]
theorem solo_inj {g g' : Goroutine} {w w' : World} (h : solo g w = solo g' w') : g = g' ∧ w = w' := by
  injection h with h1 h2
  injection h2 with h2
  injection h2 with h2
  exact ⟨h2, h1⟩
theorem G_inj {fr fr' : Frame} {cs cs' : List Frame} (h : G fr cs = G fr' cs') : fr = fr' ∧ cs = cs' := by
  injection h with h1 h2
  exact ⟨h1, h2⟩
def Panics (x : Frame) : Prop := ∃ c, x.mode = .panicking c
theorem raise_panics (x : Frame) (vs : List PanicEntry) : Panics (x.raise vs) ∧ (x.raise vs).defers = x.defers := by
  unfold Frame.raise
  split
  · exact ⟨⟨_, rfl⟩, rfl⟩
  · exact ⟨⟨_, rfl⟩, rfl⟩
/-- A frame that ends the run. -/
theorem pz_ends {p : Program} {x : Frame} {ds : List Deferred} (hd : x.defers = nilD :: ds) (hm : Panics x) (cs : List Frame) (w : World) : ∃ o w1 es, stepG p true (G x cs) w = .ended o w1 es := by
  obtain ⟨c, hc⟩ := hm
  refine ⟨.unsupported (.noEntry "machine/Return: a deferred call of a nil function value, made while the frame is unwinding") ({ x with defers := ds }.pos p), w, #[], ?_⟩
  simp [G, stepG, hc, unwind, hd, callDeferred, nilD]
/-- From a panic no way leads back to the frame's return. -/
theorem bad_never {p : Program} (frT : Frame) (wT : World) (hT : frT.mode = .returning) : ∀ (n : Nat) (x : Frame) (ys : List Frame) (w : World), Panics x → x.defers = [] → (∀ y ∈ ys, y.defers = []) → runN p n (solo (G x (ys ++ [pz])) w) ≠ .next (solo (G frT [pz]) wT) := by
  intro n
  induction n with
  | zero =>
    intro x ys w ⟨c, hc⟩ _ _ e
    simp only [runN, Stepped.next.injEq] at e
    have := (G_inj (solo_inj e).1).1
    rw [this, hT] at hc; cases hc
  | succ n ih =>
    intro x ys w ⟨c, hc⟩ hd hys e
    have hrun : (G x (ys ++ [pz])).status = .running := rfl
    by_cases hcat : x.catches p = true
    · have hst : ∃ o w1 es, stepG p true (G x (ys ++ [pz])) w = .ended o w1 es := by simp [G, stepG, hc, unwind, hd, hcat]
      obtain ⟨o, w1, es, hst⟩ := hst
      have hs := step_solo_ended hrun hst
      simp [runN, hs] at e
    · have hcat' : x.catches p = false := by simpa using hcat
      cases ys with
      | nil =>
        have hst : stepG p true (G x [pz]) w = .go (G (pz.raise c) []) w := by simp [G, stepG, hc, unwind, hd, hcat']
        have hs := Conc.step_solo_go hrun hst
        replace e := (runN_next hs n).symm.trans e
        cases n with
        | zero =>
          simp only [runN, Stepped.next.injEq] at e
          have := (G_inj (solo_inj e).1).2
          cases this
        | succ n =>
          obtain ⟨o, w1, es, hst2⟩ := pz_ends (p := p) (x := pz.raise c) (ds := []) ((raise_panics pz c).2) (raise_panics pz c).1 [] w
          have hs2 := step_solo_ended rfl hst2
          have := (runN_end hs2 n).symm.trans e
          cases this
      | cons y ys =>
        have hst : stepG p true (G x (y :: (ys ++ [pz]))) w = .go (G (y.raise c) (ys ++ [pz])) w := by simp [G, stepG, hc, unwind, hd, hcat']
        have hs := Conc.step_solo_go hrun hst
        replace e := (runN_next hs n).symm.trans e
        exact ih (y.raise c) ys w (raise_panics y c).1 ((raise_panics y c).2.trans (hys y (by simp))) (fun z hz => hys z (by simp [hz])) e
/-- .. nor from behind it. -/
theorem left_never {p : Program} (frT : Frame) (wT : World) {m : Fm} (hr : m.ret = true) {w : World} (n : Nat) : runN p (n + 1) (solo (G m.fr [pz]) w) ≠ .next (solo (G frT [pz]) wT) := by
  intro e
  have hrun : (G m.fr [pz]).status = .running := rfl
  have key : (∃ o w1 es, stepG p true (G m.fr [pz]) w = .ended o w1 es) ∨ ∃ v w1 es, stepG p true (G m.fr [pz]) w = .go (G (pz.finish v) []) w1 es := by
    rw [Fm.fr_ret hr]
    cases hf : p.funcs[m.fn]? with
    | none => right; simp [G, stepG, unwind, doReturn, hf]; exact ⟨_, rfl⟩
    | some fn =>
      cases hx : (results fn m.tmps).run p w with
      | ok v w1 => right; simp [G, stepG, unwind, doReturn, hf, hx, GStep.after]; exact ⟨_, rfl⟩
      | halt h w1 => left; cases h <;> simp [G, stepG, unwind, hf, hx, GStep.after]
  rcases key with ⟨o, w1, es, hst⟩ | ⟨v, w1, es, hst⟩
  · have hs := step_solo_ended hrun hst
    simp [runN, hs] at e
  · have hs := Conc.step_solo_go hrun hst
    simp only [runN, hs] at e
    cases n with
    | zero =>
      simp only [runN, Stepped.next.injEq] at e
      have := (G_inj (solo_inj e).1).2
      cases this
    | succ n =>
      have hpf : pz.finish v = pz := rfl
      rw [hpf] at e
      obtain ⟨o, w2, es, hst2⟩ := pz_ends (p := p) (x := pz) (ds := []) rfl ⟨_, rfl⟩ [] w1
      have hs2 := step_solo_ended rfl hst2
      simp [runN, hs2] at e
end
end Go.Tt
namespace Go.Tt
open Go.Conc (G solo)
set_option linter.unusedVariables false
inductive Its (p : Program) : Nat → Fm → List Fm → World → Fm → World → Prop
  | stop {m : Fm} {w : World} : m.ret = true → Its p 0 m [] w m w
  | step {n : Nat} {m m1 mT : Fm} {ms ms1 : List Fm} {w w1 wT : World} : (m.ret = true → ms ≠ []) → (stepS p m ms).run p w = .ok (m1, ms1) w1 → Its p n m1 ms1 w1 mT wT → Its p (n + 1) m ms w mT wT
/-- The texts are the same. -/
structure Fit3 (P : Pair) (fs : FuncId → Bool) : Prop extends Fit2 P fs where
  none : ∀ f, P.op f = false
section
variable (P : Pair) (fs : FuncId → Bool) (K : Pr) (G' : Nat) (St : Nat → Prop)
/-- Some company runs alike. -/
def RelS (m : Fm) (ms : List Fm) (w : World) : Prop := ∃ R W m' ms', WRel (SF fs) K R G' St w W ∧ FmR P fs K R m m' ∧ MsR P fs K R ms ms'
variable {P fs K G' St}
theorem WRel.tp {S : FuncId → Prop} {R : Pr} {w W : World} (h : WRel S K R G' St w W) (T : Tape) (e : Nat) : WRel S K R G' St (tp w T e) (tp W T e) :=
  ⟨h.inj, h.inj', h.lt, h.low, h.gle, h.cont, h.rest, h.st, h.np⟩
theorem WRel.untp {S : FuncId → Prop} {R : Pr} {w W : World} {T : Tape} {e : Nat} (h : WRel S K R G' St (Tt.tp w T e) W) : WRel S K R G' St w W :=
  ⟨h.inj, h.inj', h.lt, h.low, h.gle, h.cont, h.rest, h.st, h.np⟩
theorem Tp.tp (w W : World) (T : Tape) (e : Nat) : Tp (tp w T e) (tp W T e) := fun _ _ => rfl
theorem WRel.relOk {S : FuncId → Prop} {R : Pr} {w W : World} (hG : G' = P.globals.size) (h : WRel S K R G' St w W) : RelOk P K R := ⟨h.inj, h.inj', fun a b x => hG ▸ (h.low a b x).1⟩
theorem RelS.next (F : Fit3 P fs) (hG : G' = P.globals.size) {m m1 : Fm} {ms ms1 : List Fm} {w w1 : World} {T : Tape} {e : Nat} (h : RelS P fs K G' St m ms w) (hs : m.ret = true → ms ≠ [])
    (hr : (stepS P.g m ms).run P.g (tp w T e) = .ok (m1, ms1) w1) : RelS P fs K G' St m1 ms1 w1 := by
  obtain ⟨R, W, m', ms', hw, hm, hms⟩ := h
  obtain ⟨R1, x', W1, ev, e1, e2, e3, e4, e5⟩ := Sim.run hG _ (sim_stepS (l := false) F.toFit2 (hw.relOk hG) hm hms (fun e => by cases e) hs) (hw.tp T e) (Tp.tp w W T e) hr
  rcases e2 with e2 | ⟨_, ⟨f, _, _, _, _, _, _, ho, _⟩⟩
  · exact ⟨R1, W1, x'.1, x'.2, e3.rel, e2.1, e2.2.1⟩
  · rw [F.none] at ho; cases ho
theorem RelS.locl (F : Fit3 P fs) (hG : G' = P.globals.size) {m : Fm} {ms : List Fm} {w : World} (h : RelS P fs K G' St m ms w) (hs : m.ret = true → ms ≠ []) (T : Tape) (e : Nat) : Local P.g (stepS P.g m ms) (tp w T e) := by
  obtain ⟨R, W, m', ms', hw, hm, hms⟩ := h
  exact Sim.locl hG _ (sim_stepS (l := false) F.toFit2 (hw.relOk hG) hm hms (fun e => by cases e) hs) (hw.tp T e) (Tp.tp w W T e)
theorem tp_self {w : World} {T : Tape} (h : w.tape = T) : tp w T w.drawn = w := by subst h; rfl
theorem Its.alike (F : Fit3 P fs) (hG : G' = P.globals.size) : ∀ {n : Nat} {m mT : Fm} {ms : List Fm} {w wT : World} {T1 T2 : Tape} {e1 e2 : Nat}, RelS P fs K G' St m ms w → Its P.g n m ms (tp w T1 e1) mT wT → (∀ n q, T2 (e2 + n) q = T1 (e1 + n) q) → ∃ e3, Its P.g n m ms (tp w T2 e2) mT (tp wT T2 e3) := by
  intro n
  induction n with
  | zero =>
    intro m mT ms w wT T1 T2 e1 e2 hR h ht
    cases h with
    | stop hr => exact ⟨e2, .stop hr⟩
  | succ n ih =>
    intro m mT ms w wT T1 T2 e1 e2 hR h ht
    cases h with
    | step hs hr hn =>
      rename_i m1 ms1 w1
      obtain ⟨h1, h2, h3⟩ := hR.locl F hG hs T1 e1 _ _ hr
      have h4 := h3 T2 e2 (fun k _ q => ht k q)
      have hself : w1 = tp w1 T1 w1.drawn := (tp_self h1).symm
      rw [hself] at hn
      obtain ⟨e3, h5⟩ := ih (T2 := T2) (e2 := e2 + (w1.drawn - e1)) (hR.next F hG hs hr) hn (fun k q => by
        have h2' : e1 ≤ w1.drawn := h2
        rw [show e2 + (w1.drawn - e1) + k = e2 + ((w1.drawn - e1) + k) by omega, ht, show e1 + ((w1.drawn - e1) + k) = w1.drawn + k by omega])
      exact ⟨e3, .step hs h4 h5⟩
/-- The lone machine's run is such a row of steps. -/
theorem reach (F : Fit3 P fs) (hG : G' = P.globals.size) {frT : Frame} {wT : World} (hT : frT.mode = .returning) : ∀ (n : Nat) {m : Fm} {ms : List Fm} {w : World}, RelS P fs K G' St m ms w →
    runN P.g n (solo (G m.fr (ms.map Fm.fr ++ [pz])) w) = .next (solo (G frT [pz]) wT) → ∃ k mT, Its P.g k m ms w mT wT ∧ mT.fr = frT := by
  intro n
  induction n with
  | zero =>
    intro m ms w hR h
    simp only [runN, Stepped.next.injEq] at h
    obtain ⟨h1, rfl⟩ := solo_inj h
    obtain ⟨h2, h3⟩ := G_inj h1
    have hms : ms = [] := by
      cases ms with
      | nil => rfl
      | cons a b => have := congrArg List.length h3; simp at this
    subst hms
    have hr : m.ret = true := by
      rw [← h2] at hT
      cases hm : m.ret with
      | true => rfl
      | false => rw [Fm.fr_run hm] at hT; cases hT
    exact ⟨0, m, .stop hr, h2⟩
  | succ n ih =>
    intro m ms w hR h
    by_cases hstop : m.ret = true ∧ ms = []
    · obtain ⟨hr, rfl⟩ := hstop
      exact absurd h (left_never frT wT hr n)
    · have hs : m.ret = true → ms ≠ [] := fun a b => hstop ⟨a, b⟩
      have hself : tp w w.tape w.drawn = w := rfl
      by_cases hok : ∃ x w1, (stepS P.g m ms).run P.g w = .ok x w1
      · obtain ⟨⟨m1, ms1⟩, w1, hr⟩ := hok
        have hst := stepG_stepS (main := true) hr [pz]
        have hstep := Conc.step_solo_go rfl hst
        obtain ⟨k, mT, h1, h2⟩ := ih (RelS.next (T := w.tape) (e := w.drawn) F hG hR hs hr) ((runN_next hstep n).symm.trans h)
        exact ⟨k + 1, mT, .step hs hr h1, h2⟩
      · exfalso
        obtain ⟨R, W, m', ms', hw, hm, hms⟩ := hR
        rcases bad_of_stuck F.toFit2 hG (hw.tp w.tape w.drawn) (Tp.tp w W w.tape w.drawn) hm hms hs (fun x w' e => hok ⟨x, w', e⟩) [pz] with ⟨o, w1, es, hst⟩ | ⟨x, w1, es, hst, hp, hd⟩
        · have hstep := step_solo_ended rfl hst
          have := (runN_end hstep n).symm.trans h
          cases this
        · have hstep := Conc.step_solo_go rfl hst
          exact bad_never frT wT hT n x (ms.map Fm.fr) w1 hp hd (fun y hy => by obtain ⟨z, _, rfl⟩ := List.mem_map.1 hy; rfl) ((runN_next hstep n).symm.trans h)
/-! ### the tree -/
inductive LT (p : Program) (Q : Fm → World → Prop) : Fm → List Fm → World → Prop
  | stop {m : Fm} {w : World} : m.ret = true → Q m w → LT p Q m [] w
  | step {m : Fm} {ms : List Fm} {w : World} (nx : Tape → (Fm × List Fm) × World) : (m.ret = true → ms ≠ []) → (∀ T, (stepS p m ms).run p (tp w T 0) = .ok (nx T).1 (nx T).2) → (∀ T, LT p Q (nx T).1.1 (nx T).1.2 (nx T).2) → LT p Q m ms w
def Hyp (P : Pair) (fs : FuncId → Bool) (K : Pr) (G' : Nat) (St : Nat → Prop) (Q : Fm → World → Prop) (s : Fm × List Fm × World) : Prop :=
  RelS P fs K G' St s.1 s.2.1 s.2.2 ∧ ∀ T, ∃ n mT wT, Its P.g n s.1 s.2.1 (tp s.2.2 T 0) mT wT ∧ Q mT wT
theorem bar (F : Fit3 P fs) (hG : G' = P.globals.size) {Q : Fm → World → Prop} (hQ : ∀ m w T e, Q m w → Q m (tp w T e)) {m : Fm} {ms : List Fm} {w : World} (h : Hyp P fs K G' St Q (m, ms, w)) : LT P.g Q m ms w := by
  refine Classical.byContradiction fun hno => ?_
  let Bad : Fm × List Fm × World → Prop := fun s => Hyp P fs K G' St Q s ∧ ¬ LT P.g Q s.1 s.2.1 s.2.2
  have notstop : ∀ s, Bad s → s.1.ret = true → s.2.1 ≠ [] := by
    rintro ⟨m, ms, w⟩ ⟨⟨hR, hI⟩, hn⟩ hr e
    simp only at hr e hn hI
    subst e
    obtain ⟨n, mT, wT, hits, hq⟩ := hI w.tape
    cases hits with
    | stop _ => exact hn (.stop hr (show Q m (tp (tp w w.tape 0) w.tape w.drawn) from hQ _ _ w.tape w.drawn hq))
    | step hs _ _ => exact hs hr rfl
  have next : ∀ s, Bad s → ∃ (T : Tape) (s1 : Fm × List Fm × World), (stepS P.g s.1 s.2.1).run P.g (tp s.2.2 T 0) = .ok (s1.1, s1.2.1) s1.2.2 ∧ Bad s1 := by
    rintro ⟨m, ms, w⟩ hb
    have hs := notstop _ hb
    obtain ⟨⟨hR, hI⟩, hn⟩ := hb
    simp only at hs hI hn hR ⊢
    have hok : ∀ T, ∃ x w1, (stepS P.g m ms).run P.g (tp w T 0) = .ok x w1 := fun T => by
      obtain ⟨n, mT, wT, hits, _⟩ := hI T
      cases hits with
      | stop hr => exact absurd rfl (hs hr)
      | step _ hr _ => exact ⟨_, _, hr⟩
    refine Classical.byContradiction fun hno2 => hn ?_
    let x := fun T => (hok T).choose
    let w1 := fun T => (hok T).choose_spec.choose
    have hx : ∀ T, (stepS P.g m ms).run P.g (tp w T 0) = .ok (x T) (w1 T) := fun T => (hok T).choose_spec.choose_spec
    refine .step (fun T => (x T, w1 T)) hs hx fun T => Classical.byContradiction fun hlt => hno2 ⟨T, ((x T).1, (x T).2, w1 T), hx T, ⟨?_, ?_⟩, hlt⟩
    · exact hR.next F hG hs (hx T)
    · intro T'
      -- the tape: first the answers drawn here, then T'
      obtain ⟨h1, h2, h3⟩ := hR.locl F hG hs T 0 _ _ (hx T)
      let T2 : Tape := fun n q => if n < (w1 T).drawn then T n q else T' (n - (w1 T).drawn) q
      have h4 := h3 T2 0 (fun n hn q => by
        have hn' : n < (w1 T).drawn := by simpa [tp] using hn
        show (if 0 + n < (w1 T).drawn then T (0 + n) q else _) = _
        rw [if_pos (by omega)]; rfl)
      obtain ⟨n, mT, wT, hits, hq⟩ := hI T2
      cases hits with
      | stop hr => exact absurd rfl (hs hr)
      | step hs' hr hn' =>
        rename_i n' m1 ms1 w2
        have h4' : (stepS P.g m ms).run P.g (tp w T2 0) = .ok (x T) (tp (w1 T) T2 (0 + ((w1 T).drawn - (tp w T 0).drawn))) := h4
        rw [h4'] at hr
        injection hr with e1 e2
        have hx1 : m1 = (x T).1 := by rw [e1]
        have hx2 : ms1 = (x T).2 := by rw [e1]
        subst hx1 hx2
        rw [← e2] at hn'
        have hd : 0 + ((w1 T).drawn - (tp w T 0).drawn) = (w1 T).drawn := by show 0 + ((w1 T).drawn - 0) = _; omega
        rw [hd] at hn'
        obtain ⟨e3, h5⟩ := Its.alike (T2 := T') (e2 := 0) F hG (hR.next F hG hs (hx T)) hn' (fun k q => by
          show _ = (if (w1 T).drawn + k < (w1 T).drawn then _ else T' ((w1 T).drawn + k - (w1 T).drawn) q)
          rw [if_neg (by omega)]
          congr 1; omega)
        exact ⟨n', mT, _, h5, hQ _ _ _ _ hq⟩
  -- the row of bad states
  have hstart : Bad (m, ms, w) := ⟨h, hno⟩
  let nT := fun s (hb : Bad s) => (next s hb).choose
  let nS := fun s (hb : Bad s) => (next s hb).choose_spec.choose
  have hrun : ∀ s (hb : Bad s), (stepS P.g s.1 s.2.1).run P.g (tp s.2.2 (nT s hb) 0) = .ok ((nS s hb).1, (nS s hb).2.1) (nS s hb).2.2 := fun s hb => (next s hb).choose_spec.choose_spec.1
  have hbad : ∀ s (hb : Bad s), Bad (nS s hb) := fun s hb => (next s hb).choose_spec.choose_spec.2
  let seq : Nat → { s : Fm × List Fm × World // Bad s } := fun k => Nat.rec ⟨(m, ms, w), hstart⟩ (fun _ s => ⟨nS s.1 s.2, hbad s.1 s.2⟩) k
  let tps : Nat → Tape := fun k => nT (seq k).1 (seq k).2
  let d : Nat → Nat := fun k => (seq (k + 1)).1.2.2.drawn
  let D : Nat → Nat := fun k => Nat.rec 0 (fun k x => x + d k) k
  have hD : ∀ k, D (k + 1) = D k + d k := fun k => rfl
  have hmono : ∀ i j, i ≤ j → D i ≤ D j := fun i j hij => by
    induction hij with
    | refl => exact Nat.le_refl _
    | step _ ih => exact Nat.le_trans ih (by rw [hD]; omega)
  classical
  let TS : Tape := fun N q => if hh : ∃ k, D k ≤ N ∧ N < D (k + 1) then tps hh.choose (N - D hh.choose) q else 0
  have hTS : ∀ k n q, n < d k → TS (D k + n) q = tps k n q := by
    intro k n q hn
    have hh : ∃ j, D j ≤ D k + n ∧ D k + n < D (j + 1) := ⟨k, by omega, by rw [hD]; omega⟩
    have hc := hh.choose_spec
    have hk : hh.choose = k := by
      rcases Nat.lt_trichotomy hh.choose k with x | x | x
      · have := hmono (hh.choose + 1) k x; omega
      · exact x
      · have := hmono (k + 1) hh.choose x; rw [hD] at this; omega
    show (if hh : ∃ j, D j ≤ D k + n ∧ D k + n < D (j + 1) then _ else _) = _
    rw [dif_pos hh, hk]
    congr 1; omega
  have hstep : ∀ k, (stepS P.g (seq k).1.1 (seq k).1.2.1).run P.g (tp (seq k).1.2.2 TS (D k)) = .ok ((seq (k + 1)).1.1, (seq (k + 1)).1.2.1) (tp (seq (k + 1)).1.2.2 TS (D (k + 1))) := by
    intro k
    have hb := (seq k).2
    have hs := notstop _ hb
    have hr := hrun (seq k).1 (seq k).2
    obtain ⟨h1, h2, h3⟩ := hb.1.1.locl F hG hs (tps k) 0 _ _ hr
    have h4 := h3 TS (D k) (fun n hn q => by
      have hn' : n < d k := by have : n < (nS (seq k).1 (seq k).2).2.2.drawn - 0 := hn; simpa using this
      rw [hTS k n q hn']
      show _ = tps k (0 + n) q
      rw [Nat.zero_add])
    have e1 : D k + ((nS (seq k).1 (seq k).2).2.2.drawn - (tp (seq k).1.2.2 (tps k) 0).drawn) = D (k + 1) := by rw [hD]; show D k + ((seq (k + 1)).1.2.2.drawn - 0) = _; rfl
    rw [e1] at h4
    exact h4
  obtain ⟨n, mT, wT, hits, _⟩ := h.2 TS
  have key : ∀ (n k : Nat) (mT : Fm) (wT : World), Its P.g n (seq k).1.1 (seq k).1.2.1 (tp (seq k).1.2.2 TS (D k)) mT wT → False := by
    intro n
    induction n with
    | zero =>
      intro k mT wT hi
      have hs := notstop _ (seq k).2
      generalize hms : (seq k).1.2.1 = ms0 at hi hs
      cases hi with
      | stop hr => exact hs hr rfl
    | succ n ih =>
      intro k mT wT hi
      have hst := hstep k
      generalize hms : (seq k).1.2.1 = ms0 at hi hst
      generalize hmm : (seq k).1.1 = m0 at hi hst
      generalize hww : tp (seq k).1.2.2 TS (D k) = w0 at hi hst
      cases hi with
      | step hs' hr hn =>
        rename_i m1 ms1 w1
        rw [hst] at hr
        injection hr with e1 e2
        injection e1 with e1 e3
        subst e1 e2 e3
        exact ih (k + 1) mT wT hn
  exact key n 0 mT wT hits
end
end Go.Tt
namespace Go.Tt
set_option linter.unusedVariables false
/-- N: what is held of the frame that a step leaves on top. -/
inductive LTs (p : Program) (N : Fm → Prop) (Stop : Fm → List Fm → World → Prop) : Fm → List Fm → World → Prop
  | stop {m : Fm} {ms : List Fm} {w : World} : Stop m ms w → LTs p N Stop m ms w
  | step {m : Fm} {ms : List Fm} {w : World} (nx : Tape → (Fm × List Fm) × World) : (m.ret = true → ms ≠ []) → (∀ T, (stepS p m ms).run p (tp w T 0) = .ok (nx T).1 (nx T).2) → (∀ T, N (nx T).1.1) → (∀ T, LTs p N Stop (nx T).1.1 (nx T).1.2 (nx T).2) → LTs p N Stop m ms w
def Fm.app (m : Fm) (k : List Item) : Fm := { m with todo := m.todo ++ k }
theorem Fm.app_nil (m : Fm) : m.app [] = m := by unfold Fm.app; simp
theorem exitTo_app {id : Nat} : ∀ {l l' : List Item} (k : List Item), exitTo id l = some l' → exitTo id (l ++ k) = some (l' ++ k)
  | [], _, _, h => by simp [exitTo] at h
  | x :: l, l', k, h => by
    have tail : exitTo id l = some l' → exitTo id (l ++ k) = some (l' ++ k) := exitTo_app k
    cases x <;> simp only [exitTo, List.cons_append] at h ⊢ <;> first | exact tail h | skip
    split at h
    · next e => simp only [Option.some.injEq] at h; subst h; rw [if_pos e]
    · next e => rw [if_neg e]; exact tail h
section
variable {p : Program}
theorem Fm.eval_app (m : Fm) (k : List Item) : (m.app k).eval = m.eval := by funext x; cases x <;> rfl
theorem Fm.fin_app (m : Fm) (ops : Array Oper) (i : Nat) (rest : List Nat) (k0 k : List Item) (v : Value) : (m.app k).fin ops i rest (k0 ++ k) v = (m.fin ops i rest k0 v).app k := by
  unfold Fm.fin Fm.app
  simp
/-- A step of the frame that runs, under another rest and other frames. -/
theorem runS_app {m x : Fm} {ms ys ms' : List Fm} {w w1 : World} (k : List Item) (hne : m.todo ≠ []) (h : (runS p m ms).run p w = .ok (x, ys) w1) :
    (ys = ms ∧ (runS p (m.app k) ms').run p w = .ok (x.app k, ms') w1) ∨ (ys = m :: ms ∧ (runS p (m.app k) ms').run p w = .ok (x, m.app k :: ms') w1) := by
  obtain ⟨fn, tmps, todo, ret⟩ := m
  simp only at hne
  unfold runS at h ⊢
  simp only [Fm.app] at h ⊢
  cases todo with
  | nil => exact absurd rfl hne
  | cons it k0 =>
    simp only [List.cons_append] at h ⊢
    cases it with
    | code c =>
      cases c with
      | cond c a b =>
        simp only at h ⊢
        have he : Fm.eval { fn := fn, tmps := tmps, todo := Item.code (Code.cond c a b) :: (k0 ++ k), ret := ret } c = Fm.eval { fn := fn, tmps := tmps, todo := Item.code (Code.cond c a b) :: k0, ret := ret } c := by cases c <;> rfl
        rw [he]
        cases hv : Fm.eval { fn := fn, tmps := tmps, todo := Item.code (Code.cond c a b) :: k0, ret := ret } c with
        | bool t =>
          rw [hv] at h
          simp only [Pure.pure, Sem.run, Result.ok.injEq, Prod.mk.injEq] at h
          obtain ⟨⟨rfl, rfl⟩, rfl⟩ := h
          exact .inl ⟨rfl, rfl⟩
        | _ => rw [hv] at h; simp [stuck, Sem.run] at h
      | exit id =>
        simp only at h ⊢
        cases he : exitTo id k0 with
        | some k' =>
          rw [he] at h
          rw [exitTo_app k he]
          simp only [Pure.pure, Sem.run, Result.ok.injEq, Prod.mk.injEq] at h
          obtain ⟨⟨rfl, rfl⟩, rfl⟩ := h
          exact .inl ⟨rfl, rfl⟩
        | none => rw [he] at h; simp [stuck, Sem.run] at h
      | region id ops draw =>
        cases draw with
        | true =>
          simp only [if_true] at h ⊢
          have h2 := (Sem.run_bind' p (choose (.order fn id)) _ w).symm.trans h
          have h3 := fun (f : Nat → Sem (Fm × List Fm)) => Sem.run_bind' p (choose (.order fn id)) f w
          cases hc : (choose (.order fn id)).run p w with
          | ok t w2 =>
            rw [hc] at h2 h3
            simp only [Result.andThen] at h2 h3
            simp only [Pure.pure, Sem.run, Result.ok.injEq, Prod.mk.injEq] at h2
            obtain ⟨⟨rfl, rfl⟩, rfl⟩ := h2
            exact .inl ⟨rfl, h3 _⟩
          | halt y w2 => rw [hc] at h2; cases h2
        | false =>
          simp only [Bool.false_eq_true, if_false, Pure.pure, Sem.run, Result.ok.injEq, Prod.mk.injEq] at h
          obtain ⟨⟨rfl, rfl⟩, rfl⟩ := h
          exact .inl ⟨rfl, rfl⟩
      | _ =>
        first
          | (simp [stuck, Sem.run] at h; done)
          | (simp only [Pure.pure, Sem.run, Result.ok.injEq, Prod.mk.injEq] at h
             obtain ⟨⟨rfl, rfl⟩, rfl⟩ := h
             exact .inl ⟨rfl, rfl⟩)
    | inRegion ops l =>
      cases l with
      | nil =>
        simp only [Pure.pure, Sem.run, Result.ok.injEq, Prod.mk.injEq] at h
        obtain ⟨⟨rfl, rfl⟩, rfl⟩ := h
        exact .inl ⟨rfl, rfl⟩
      | cons i rest =>
        simp only at h ⊢
        have hfin : ∀ v, Fm.fin { fn := fn, tmps := tmps, todo := Item.inRegion ops (i :: rest) :: (k0 ++ k), ret := ret } ops i rest (k0 ++ k) v = (Fm.fin { fn := fn, tmps := tmps, todo := Item.inRegion ops (i :: rest) :: k0, ret := ret } ops i rest k0 v).app k := fun v => Fm.fin_app { fn := fn, tmps := tmps, todo := Item.inRegion ops (i :: rest) :: k0, ret := ret } ops i rest k0 k v
        by_cases hw : ((ops[i]?).map (Region.wanted · (yielded ops tmps))).getD false = true
        · rw [if_pos hw] at h
          simp only [hw, if_true]
          cases ho : ops[i]? with
          | none => rw [ho] at h; simp [stuck, Sem.run] at h
          | some o =>
            rw [ho] at h
            simp only at h ⊢
            have hev : Fm.eval { fn := fn, tmps := tmps, todo := Item.inRegion ops (i :: rest) :: (k0 ++ k), ret := ret } = Fm.eval { fn := fn, tmps := tmps, todo := Item.inRegion ops (i :: rest) :: k0, ret := ret } := by funext y; cases y <;> rfl
            rw [hev]
            have h2 := (Sem.run_bind' p _ _ w).symm.trans h
            have h3 := fun (f : Next → Sem (Fm × List Fm)) => Sem.run_bind' p (execOp (Fm.eval { fn := fn, tmps := tmps, todo := Item.inRegion ops (i :: rest) :: k0, ret := ret }) o) f w
            cases hc : (execOp (Fm.eval { fn := fn, tmps := tmps, todo := Item.inRegion ops (i :: rest) :: k0, ret := ret }) o).run p w with
            | halt y w2 => rw [hc] at h2; cases h2
            | ok n w2 =>
              rw [hc] at h2 h3
              simp only [Result.andThen] at h2 h3
              cases n with
              | value v =>
                simp only [opS, Pure.pure, Sem.run, Result.ok.injEq, Prod.mk.injEq] at h2
                obtain ⟨⟨rfl, rfl⟩, rfl⟩ := h2
                refine .inl ⟨rfl, (h3 _).trans ?_⟩
                simp only [opS, Pure.pure, Sem.run, hfin]; rfl
              | skip =>
                simp only [opS, Pure.pure, Sem.run, Result.ok.injEq, Prod.mk.injEq] at h2
                obtain ⟨⟨rfl, rfl⟩, rfl⟩ := h2
                refine .inl ⟨rfl, (h3 _).trans ?_⟩
                simp only [opS, Pure.pure, Sem.run, hfin]; rfl
              | enter f args =>
                simp only [opS] at h2
                cases hf : p.funcs[f]? with
                | none => rw [hf] at h2; simp [stuck, Sem.run] at h2
                | some fn2 =>
                  cases hb : fn2.body with
                  | none => rw [hf] at h2; simp only [hb] at h2; simp [stuck, Sem.run] at h2
                  | some c =>
                    rw [hf] at h2
                    simp only [hb, Pure.pure, Sem.run, Result.ok.injEq, Prod.mk.injEq] at h2
                    obtain ⟨⟨rfl, rfl⟩, rfl⟩ := h2
                    refine .inr ⟨rfl, (h3 _).trans ?_⟩
                    simp only [opS, hf, hb, Pure.pure, Sem.run]
              | _ => simp [opS, stuck, Sem.run] at h2
        · rw [if_neg hw] at h
          have hw' : ((ops[i]?).map (Region.wanted · (yielded ops tmps))).getD false = false := by simpa using hw
          simp only [hw', Bool.false_eq_true, if_false]
          simp only [Pure.pure, Sem.run, Result.ok.injEq, Prod.mk.injEq] at h
          obtain ⟨⟨rfl, rfl⟩, rfl⟩ := h
          refine .inl ⟨rfl, ?_⟩
          simp only [Pure.pure, Sem.run, hfin]; rfl
    | _ =>
      first
        | (simp [stuck, Sem.run] at h; done)
        | (simp only [Pure.pure, Sem.run, Result.ok.injEq, Prod.mk.injEq] at h
           obtain ⟨⟨rfl, rfl⟩, rfl⟩ := h
           exact .inl ⟨rfl, rfl⟩)
/-- The lowest frame has k behind it, and b below. -/
def appS (k : List Item) (b : List Fm) : Fm → List Fm → Fm × List Fm
  | m, [] => (m.app k, b)
  | m, c :: cs => (m, (appS k b c cs).1 :: (appS k b c cs).2)
theorem stepS_app {k : List Item} {b : List Fm} {m m1 : Fm} {ms ms1 : List Fm} {w w1 : World} (h : (stepS p m ms).run p w = .ok (m1, ms1) w1) (hne : ms = [] → m.ret = false → m.todo ≠ []) :
    (stepS p (appS k b m ms).1 (appS k b m ms).2).run p w = .ok (appS k b m1 ms1) w1 := by
  cases ms with
  | nil =>
    simp only [appS]
    cases hr : m.ret with
    | true => simp [stepS, hr, retS, stuck, Sem.run] at h
    | false =>
      have hr' : (m.app k).ret = false := hr
      simp only [stepS, hr, Bool.false_eq_true, if_false] at h
      simp only [stepS, hr', Bool.false_eq_true, if_false]
      rcases runS_app (ms' := b) k (hne rfl hr) h with ⟨rfl, e⟩ | ⟨rfl, e⟩
      · exact e
      · exact e
  | cons c cs =>
    simp only [appS]
    cases hr : m.ret with
    | true =>
      simp only [stepS, hr, if_true] at h ⊢
      obtain ⟨ops, i, r, k0, v, fn, hc, hf, hv, rfl, rfl⟩ := retS_inv h
      cases ms1 with
      | nil =>
        simp only [appS]
        have hc' : (c.app k).todo = .inRegion ops (i :: r) :: (k0 ++ k) := by simp [Fm.app, hc]
        have := (retS_mk (rest := b) hc' hf hv).1
        rw [Fm.fin_app] at this
        exact this
      | cons d ds => exact (retS_mk hc hf hv).1
    | false =>
      simp only [stepS, hr, Bool.false_eq_true, if_false] at h ⊢
      by_cases htd : m.todo = []
      · simp only [runS, htd, Pure.pure, Sem.run, Result.ok.injEq, Prod.mk.injEq] at h ⊢
        obtain ⟨⟨rfl, rfl⟩, rfl⟩ := h
        exact ⟨rfl, rfl⟩
      · rcases runS_app (ms' := (appS k b c cs).1 :: (appS k b c cs).2) [] htd h with ⟨rfl, e⟩ | ⟨rfl, e⟩
        · simp only [Fm.app_nil] at e
          exact e
        · simp only [Fm.app_nil] at e
          exact e
theorem runS_ret {m x : Fm} {ms ys : List Fm} {w w1 : World} (h : (runS p m ms).run p w = .ok (x, ys) w1) (hx : x.ret = true) (hr : m.ret = false) (hne : m.todo ≠ []) : x.todo ≠ [] := by
  obtain ⟨fn, tmps, todo, ret⟩ := m
  simp only at hne hr
  subst hr
  unfold runS at h
  simp only at h
  split at h
  all_goals first
    | (simp [stuck, Sem.run] at h; done)
    | (simp only [Pure.pure, Sem.run, Result.ok.injEq, Prod.mk.injEq] at h
       obtain ⟨⟨rfl, rfl⟩, rfl⟩ := h
       first | exact hne | (simp at hx; done) | exact Bool.noConfusion hx)
    | skip
  case h_8 _ c a b k =>
    split at h
    · simp only [Pure.pure, Sem.run, Result.ok.injEq, Prod.mk.injEq] at h
      obtain ⟨⟨rfl, rfl⟩, rfl⟩ := h
      cases hx
    · simp [stuck, Sem.run] at h
  case h_13 _ id k =>
    split at h
    · simp only [Pure.pure, Sem.run, Result.ok.injEq, Prod.mk.injEq] at h
      obtain ⟨⟨rfl, rfl⟩, rfl⟩ := h
      cases hx
    · simp [stuck, Sem.run] at h
  case h_14 _ id ops draw k =>
    cases draw with
    | true =>
      simp only [if_true] at h
      have h2 := (Sem.run_bind' p (choose (.order fn id)) _ w).symm.trans h
      cases hc : (choose (.order fn id)).run p w with
      | ok t w2 =>
        rw [hc] at h2
        simp only [Result.andThen, Pure.pure, Sem.run, Result.ok.injEq, Prod.mk.injEq] at h2
        obtain ⟨⟨rfl, rfl⟩, rfl⟩ := h2
        cases hx
      | halt y w2 => rw [hc] at h2; cases h2
    | false =>
      simp only [Bool.false_eq_true, if_false, Pure.pure, Sem.run, Result.ok.injEq, Prod.mk.injEq] at h
      obtain ⟨⟨rfl, rfl⟩, rfl⟩ := h
      cases hx
  case h_16 _ ops i rest k =>
    split at h
    · split at h
      · next o ho =>
        have h2 := (Sem.run_bind' p _ _ w).symm.trans h
        cases hc : (execOp (Fm.eval { fn := fn, tmps := tmps, todo := Item.inRegion ops (i :: rest) :: k, ret := false }) o).run p w with
        | halt y w2 => rw [hc] at h2; cases h2
        | ok n w2 =>
          rw [hc] at h2
          simp only [Result.andThen] at h2
          cases n with
          | value v =>
            simp only [opS, Pure.pure, Sem.run, Result.ok.injEq, Prod.mk.injEq] at h2
            obtain ⟨⟨rfl, rfl⟩, rfl⟩ := h2
            cases hx
          | skip =>
            simp only [opS, Pure.pure, Sem.run, Result.ok.injEq, Prod.mk.injEq] at h2
            obtain ⟨⟨rfl, rfl⟩, rfl⟩ := h2
            cases hx
          | enter f args =>
            simp only [opS] at h2
            split at h2
            · split at h2
              · simp only [Pure.pure, Sem.run, Result.ok.injEq, Prod.mk.injEq] at h2
                obtain ⟨⟨rfl, rfl⟩, rfl⟩ := h2
                cases hx
              · simp [stuck, Sem.run] at h2
            · simp [stuck, Sem.run] at h2
          | _ => simp [opS, stuck, Sem.run] at h2
      · simp [stuck, Sem.run] at h
    · simp only [Pure.pure, Sem.run, Result.ok.injEq, Prod.mk.injEq] at h
      obtain ⟨⟨rfl, rfl⟩, rfl⟩ := h
      cases hx
theorem runS_fn {m x : Fm} {ms ys : List Fm} {w w1 : World} (h : (runS p m ms).run p w = .ok (x, ys) w1) : (ys = ms ∧ x.fn = m.fn) ∨ ys = m :: ms := by
  obtain ⟨fn, tmps, todo, ret⟩ := m
  unfold runS at h
  simp only at h
  split at h
  all_goals first
    | (simp [stuck, Sem.run] at h; done)
    | (simp only [Pure.pure, Sem.run, Result.ok.injEq, Prod.mk.injEq] at h
       obtain ⟨⟨rfl, rfl⟩, rfl⟩ := h
       exact .inl ⟨rfl, rfl⟩)
    | skip
  case h_8 _ c a b k =>
    split at h
    · simp only [Pure.pure, Sem.run, Result.ok.injEq, Prod.mk.injEq] at h
      obtain ⟨⟨rfl, rfl⟩, rfl⟩ := h
      exact .inl ⟨rfl, rfl⟩
    · simp [stuck, Sem.run] at h
  case h_13 _ id k =>
    split at h
    · simp only [Pure.pure, Sem.run, Result.ok.injEq, Prod.mk.injEq] at h
      obtain ⟨⟨rfl, rfl⟩, rfl⟩ := h
      exact .inl ⟨rfl, rfl⟩
    · simp [stuck, Sem.run] at h
  case h_14 _ id ops draw k =>
    cases draw with
    | true =>
      simp only [if_true] at h
      have h2 := (Sem.run_bind' p (choose (.order fn id)) _ w).symm.trans h
      cases hc : (choose (.order fn id)).run p w with
      | ok t w2 =>
        rw [hc] at h2
        simp only [Result.andThen, Pure.pure, Sem.run, Result.ok.injEq, Prod.mk.injEq] at h2
        obtain ⟨⟨rfl, rfl⟩, rfl⟩ := h2
        exact .inl ⟨rfl, rfl⟩
      | halt y w2 => rw [hc] at h2; cases h2
    | false =>
      simp only [Bool.false_eq_true, if_false, Pure.pure, Sem.run, Result.ok.injEq, Prod.mk.injEq] at h
      obtain ⟨⟨rfl, rfl⟩, rfl⟩ := h
      exact .inl ⟨rfl, rfl⟩
  case h_16 _ ops i rest k =>
    split at h
    · split at h
      · next o ho =>
        have h2 := (Sem.run_bind' p _ _ w).symm.trans h
        cases hc : (execOp (Fm.eval { fn := fn, tmps := tmps, todo := Item.inRegion ops (i :: rest) :: k, ret := ret }) o).run p w with
        | halt y w2 => rw [hc] at h2; cases h2
        | ok n w2 =>
          rw [hc] at h2
          simp only [Result.andThen] at h2
          cases n with
          | value v =>
            simp only [opS, Pure.pure, Sem.run, Result.ok.injEq, Prod.mk.injEq] at h2
            obtain ⟨⟨rfl, rfl⟩, rfl⟩ := h2
            exact .inl ⟨rfl, rfl⟩
          | skip =>
            simp only [opS, Pure.pure, Sem.run, Result.ok.injEq, Prod.mk.injEq] at h2
            obtain ⟨⟨rfl, rfl⟩, rfl⟩ := h2
            exact .inl ⟨rfl, rfl⟩
          | enter f args =>
            simp only [opS] at h2
            split at h2
            · split at h2
              · simp only [Pure.pure, Sem.run, Result.ok.injEq, Prod.mk.injEq] at h2
                obtain ⟨⟨rfl, rfl⟩, rfl⟩ := h2
                exact .inr rfl
              · simp [stuck, Sem.run] at h2
            · simp [stuck, Sem.run] at h2
          | _ => simp [opS, stuck, Sem.run] at h2
      · simp [stuck, Sem.run] at h
    · simp only [Pure.pure, Sem.run, Result.ok.injEq, Prod.mk.injEq] at h
      obtain ⟨⟨rfl, rfl⟩, rfl⟩ := h
      exact .inl ⟨rfl, rfl⟩
def lastFn : Fm → List Fm → FuncId
  | m, [] => m.fn
  | _, c :: cs => lastFn c cs
theorem stepS_lastFn {m m1 : Fm} {ms ms1 : List Fm} {w w1 : World} (h : (stepS p m ms).run p w = .ok (m1, ms1) w1) : lastFn m1 ms1 = lastFn m ms := by
  cases hr : m.ret with
  | true =>
    simp only [stepS, hr, if_true] at h
    cases ms with
    | nil => simp [retS, stuck, Sem.run] at h
    | cons c cs =>
      obtain ⟨ops, i, r, k0, v, fn, hc, hf, hv, rfl, rfl⟩ := retS_inv h
      cases ms1 <;> rfl
  | false =>
    simp only [stepS, hr, Bool.false_eq_true, if_false] at h
    rcases runS_fn h with ⟨rfl, e⟩ | rfl
    · cases ms1 with
      | nil => exact e
      | cons c cs => rfl
    · rfl
theorem appS_lastFn (k : List Item) (b : List Fm) (m : Fm) (ms : List Fm) : (appS k b m ms).1.fn = m.fn := by
  cases ms <;> rfl
theorem LT.ret_inv {Q : Fm → World → Prop} {m : Fm} {w : World} (hr : m.ret = true) (h : LT p Q m [] w) : Q m w := by
  generalize hms : ([] : List Fm) = ms at h
  cases h with
  | stop _ hq => exact hq
  | step nx hs hrun _ => subst hms; exact absurd rfl (hs hr)
theorem LT.app {P₁ : Pair} {fs₁ : FuncId → Bool} {K₁ : Pr} {G₁ : Nat} {St₁ : Nat → Prop} (F₁ : Fit3 P₁ fs₁) (hG₁ : G₁ = P₁.globals.size) {Q : Fm → World → Prop} {N : Fm → Prop} {Stop : Fm → List Fm → World → Prop} (k : List Item) (b : List Fm) {fn0 : FuncId}
    (hN : ∀ m R y, FmR P₁ fs₁ K₁ R m y → N m) (hN0 : ∀ m : Fm, m.fn = fn0 → N m)
    (hn : ∀ (x : Fm) (w : World), x.fn = fn0 → x.ret = false → x.todo = [] → (∀ T, Q { x with ret := true } (tp w T 0)) → Stop (x.app k) b w)
    (hr : ∀ (x : Fm) (w : World), x.fn = fn0 → x.ret = true → x.todo ≠ [] → Q x w → Stop (x.app k) b w) {m : Fm} {ms : List Fm} {w : World} (h : LT P₁.g Q m ms w) :
    lastFn m ms = fn0 → RelS P₁ fs₁ K₁ G₁ St₁ m ms w → (ms = [] → m.ret = true → m.todo ≠ []) → LTs P₁.g N Stop (appS k b m ms).1 (appS k b m ms).2 w := by
  induction h with
  | stop h1 h2 => intro hl _ hz; exact .stop (hr _ _ hl h1 (hz rfl h1) h2)
  | step nx hs hrun hlt ih =>
    rename_i m ms w
    intro hl hrel hz
    by_cases hend : ms = [] ∧ m.ret = false ∧ m.todo = []
    · obtain ⟨rfl, h1, h2⟩ := hend
      refine .stop (hn m w hl h1 h2 fun T => ?_)
      have hT := hrun T
      have e : (stepS P₁.g m []).run P₁.g (tp w T 0) = .ok ({ m with ret := true }, []) (tp w T 0) := by simp [stepS, h1, runS, h2, Pure.pure, Sem.run]
      rw [e] at hT
      injection hT with e1 e2
      have hl := hlt T
      rw [← e1, ← e2] at hl
      exact hl.ret_inv rfl
    · have hne : ms = [] → m.ret = false → m.todo ≠ [] := fun a b c => hend ⟨a, b, c⟩
      have hlf : ∀ T, lastFn (nx T).1.1 (nx T).1.2 = fn0 := fun T => (stepS_lastFn (m1 := (nx T).1.1) (ms1 := (nx T).1.2) (hrun T)).trans hl
      have hch : ∀ T, RelS P₁ fs₁ K₁ G₁ St₁ (nx T).1.1 (nx T).1.2 (nx T).2 := fun T => RelS.next (T := T) (e := 0) F₁ hG₁ hrel hs (hrun T)
      refine .step (fun T => (appS k b (nx T).1.1 (nx T).1.2, (nx T).2)) (fun e => ?_) (fun T => stepS_app (hrun T) hne) (fun T => ?_) (fun T => ih T (hlf T) (hch T) fun e1 e2 e3 => ?_)
      · cases ms with
        | nil => exact absurd rfl (hs e)
        | cons c cs => simp [appS]
      · -- the top frame
        show N (appS k b (nx T).1.1 (nx T).1.2).1
        cases hms : (nx T).1.2 with
        | nil => exact hN0 _ (by have := hlf T; rw [hms] at this; exact this)
        | cons c cs =>
          obtain ⟨R, W, m', ms', _, hm, _⟩ := hch T
          exact hN _ R m' hm
      -- the lowest frame has come to its return: by 'ret'
      have hT := hrun T
      cases ms with
      | nil =>
        cases hr1 : m.ret with
        | true => exact hs hr1 rfl
        | false =>
          simp only [stepS, hr1, Bool.false_eq_true, if_false] at hT
          exact runS_ret hT e2 hr1 (hne rfl hr1) e3
      | cons c cs =>
        cases hr1 : m.ret with
        | true =>
          simp only [stepS, hr1, if_true] at hT
          obtain ⟨ops, i, r, k0, v, fn, hc, hf, hv, h1, h2⟩ := retS_inv (m1 := (nx T).1.1) (ms1 := (nx T).1.2) hT
          rw [h1] at e3
          simp [Fm.fin] at e3
        | false =>
          simp only [stepS, hr1, Bool.false_eq_true, if_false] at hT
          rcases runS_fn hT with ⟨e, _⟩ | e
          · rw [e1] at e; cases e
          · rw [e1] at e; cases e
end
end Go.Tt
