/-
  Maps whose keys are channels: a block of entries as a list of pairs (the channel's block, the value).
-/
import Derived.Test.YtojnnemodikpeaaDoorOwnV
import Derived.Maps.OwnSet
namespace Go.Proofs.YtojnnemodikpeaaDoor
open Go.RowKit
set_option linter.unusedVariables false
section
variable {P : Program} {k : TypeId}
theorem run_equal_chan {d : ChanDir} {e : TypeId} (hk : P.underlying k = some (.chan d e)) (a b : Option Nat) (w : World) : (Op.equal k (.chan a) (.chan b)).run P w = .ok (a == b) w := by
  unfold Op.equal
  rw [show Op.maxDepth = (Op.maxDepth - 1) + 1 by decide]
  simp [Op.equalIn, run_underlying hk]
end
/-- The entries read as the pairs. -/
def EsOf (es : List MapEntry) (ps : List (Nat × Value)) : Prop := es.map (fun e => (e.key, e.val)) = ps.map (fun p => (Value.chan (some p.1), p.2))
def ChanMap (w : World) (b : Nat) (ps : List (Nat × Value)) : Prop := ∃ es clock, w.heap[b]? = some (.map es clock) ∧ EsOf es.toList ps
def lookC (c : Nat) : List (Nat × Value) → Option Value
  | [] => none
  | p :: ps => if c = p.1 then some p.2 else lookC c ps
def putC (c : Nat) (v : Value) : List (Nat × Value) → List (Nat × Value)
  | [] => [(c, v)]
  | p :: ps => if c = p.1 then (p.1, v) :: ps else p :: putC c v ps
def findC (c : Nat) : List (Nat × Value) → Nat → Option (Nat × Value)
  | [], _ => none
  | p :: ps, i => if c = p.1 then some (i, p.2) else findC c ps (i + 1)
theorem EsOf.cons_inv {e : MapEntry} {es : List MapEntry} {ps : List (Nat × Value)} (h : EsOf (e :: es) ps) : ∃ p qs, ps = p :: qs ∧ e.key = .chan (some p.1) ∧ e.val = p.2 ∧ EsOf es qs := by
  unfold EsOf at h
  cases ps with
  | nil => cases h
  | cons p qs =>
    rw [List.map_cons, List.map_cons] at h
    injection h with h1 h2
    injection h1 with h3 h4
    exact ⟨p, qs, rfl, h3, h4, h2⟩
theorem EsOf.nil_inv {ps : List (Nat × Value)} (h : EsOf [] ps) : ps = [] := by
  unfold EsOf at h; cases ps with
  | nil => rfl
  | cons p qs => cases h
section
variable {P : Program} {k : TypeId} {d : ChanDir} {e0 : TypeId}
theorem run_findAsking_chan (hk : P.underlying k = some (.chan d e0)) (c : Nat) (w : World) : ∀ (es : List MapEntry) (ps : List (Nat × Value)) (i : Nat), EsOf es ps → (Instr.findAsking k (.chan (some c)) es i).run P w = .ok (findC c ps i) w
  | [], ps, i, h => by rw [h.nil_inv]; rfl
  | e :: es, ps, i, h => by
    obtain ⟨p, qs, rfl, h1, h2, h3⟩ := h.cons_inv
    have ih := run_findAsking_chan hk c w es qs (i + 1) h3
    unfold Instr.findAsking
    simp only [Sem.run_bind, h1, run_equal_chan hk, Result.andThen_ok]
    by_cases hc : c = p.1
    · subst hc; simp [findC, h2]
    · have : (some c == some p.1) = false := by rw [beq_eq_false_iff_ne]; intro h; injection h with h; exact hc h
      rw [this]
      simp only [Bool.false_eq_true, if_false, findC, if_neg hc]
      exact ih
theorem run_findKey_chan (hk : P.underlying k = some (.chan d e0)) (c : Nat) (w : World) (es : List MapEntry) (ps : List (Nat × Value)) (h : EsOf es ps) : (Instr.findKey k (.chan (some c)) es).run P w = .ok (findC c ps 0) w := by
  unfold Instr.findKey
  simp only [Sem.run_bind, run_underlying hk, Result.andThen_ok]
  cases es with
  | nil => rw [h.nil_inv]; rfl
  | cons e es =>
    have : Instr.findNow (.chan d e0) (.chan (some c)) (e :: es) 0 = none := by
      simp [Instr.findNow, Instr.sameNow]
    rw [this]
    exact run_findAsking_chan hk c w _ _ 0 h
theorem findC_look (c : Nat) : ∀ (ps : List (Nat × Value)) (i : Nat), (findC c ps i).map Prod.snd = lookC c ps
  | [], _ => rfl
  | p :: ps, i => by
    unfold findC lookC
    by_cases h : c = p.1
    · rw [if_pos h, if_pos h]; rfl
    · rw [if_neg h, if_neg h]; exact findC_look c ps (i + 1)
theorem run_checkKey_chan (hk : P.underlying k = some (.chan d e0)) (b : Bool) (c : Nat) (w : World) : (Instr.checkKey b 10000 k (.chan (some c))).run P w = .ok () w := by
  rw [show (10000 : Nat) = 9999 + 1 by decide]
  unfold Instr.checkKey
  simp [run_underlying hk]
theorem run_lookup_chan {t e : TypeId} (ht : P.underlying t = some (.map k e)) (hk : P.underlying k = some (.chan d e0)) {z : Value} {w : World} (hz : (zeroValue e).run P w = .ok z w) {b c : Nat} {ps : List (Nat × Value)} (h : ChanMap w b ps) (ok : Bool) :
    (Instr.lookup t (.map (some b)) (.chan (some c)) ok).run P w = .ok (if ok then .tuple #[(lookC c ps).getD z, .bool (lookC c ps).isSome] else (lookC c ps).getD z) w := by
  obtain ⟨es, clock, hb, he⟩ := h
  unfold Instr.lookup
  have hf := findC_look c ps 0
  have hg : (getObj b).run P w = .ok (.map es clock) w := by first | exact run_getObj hb | (show Sem.run P (Sem.getObj b Sem.pure) w = _; unfold Sem.run; rw [hb]; rfl) | (simp [getObj, Sem.run, hb])
  simp only [Sem.run_bind, run_underlying ht, Result.andThen_ok, hg, Sem.run_pure, run_checkKey_chan hk, run_findKey_chan hk c w _ _ he]
  cases hq : findC c ps 0 with
  | none =>
    rw [hq] at hf
    have hf' : lookC c ps = none := by simpa using hf.symm
    simp [hz, hf']
  | some q =>
    rw [hq] at hf
    have hf' : lookC c ps = some q.2 := by simpa using hf.symm
    simp [hf']
end
theorem putC_none {c : Nat} {v : Value} : ∀ {ps : List (Nat × Value)} {i : Nat}, findC c ps i = none → putC c v ps = ps ++ [(c, v)]
  | [], _, _ => rfl
  | p :: ps, i, h => by
    unfold findC at h
    by_cases hc : c = p.1
    · rw [if_pos hc] at h; cases h
    · rw [if_neg hc] at h
      unfold putC
      rw [if_neg hc, putC_none h]; rfl
theorem findC_some {c : Nat} {v : Value} : ∀ {es : List MapEntry} {ps : List (Nat × Value)} {i : Nat} {q : Nat × Value}, EsOf es ps → findC c ps i = some q →
    ∃ j e0, q.1 = i + j ∧ es[j]? = some e0 ∧ e0.key = .chan (some c) ∧ EsOf (es.set j { e0 with key := .chan (some c), val := v }) (putC c v ps)
  | [], ps, i, q, h, hq => by rw [h.nil_inv] at hq; cases hq
  | e :: es, ps, i, q, h, hq => by
    obtain ⟨p, qs, rfl, h1, h2, h3⟩ := h.cons_inv
    unfold findC at hq
    by_cases hc : c = p.1
    · rw [if_pos hc] at hq
      injection hq with hq
      refine ⟨0, e, by rw [← hq]; rfl, rfl, by rw [h1, hc], ?_⟩
      unfold putC
      rw [if_pos hc]
      unfold EsOf at h3 ⊢
      rw [List.set_cons_zero, List.map_cons, List.map_cons, h3, hc]
    · rw [if_neg hc] at hq
      obtain ⟨j, e0, e1, e2, e3, e4⟩ := findC_some (v := v) h3 hq
      refine ⟨j + 1, e0, by rw [e1]; omega, e2, e3, ?_⟩
      unfold putC
      rw [if_neg hc]
      unfold EsOf at e4 ⊢
      rw [List.set_cons_succ, List.map_cons, List.map_cons, e4, h1, h2]
theorem run_stays_chan {P : Program} (c : Nat) (w : World) : (Instr.keyThatStays (.chan (some c)) (.chan (some c))).run P w = .ok (.chan (some c)) w := by
  unfold Instr.keyThatStays
  rw [if_pos (by simp [Instr.sameBits])]
  rfl
section
variable {P : Program} {k : TypeId} {d : ChanDir} {e0 : TypeId}
open Go.ChangeMaps in
theorem run_update_chan {t e : TypeId} (ht : P.underlying t = some (.map k e)) (hk : P.underlying k = some (.chan d e0)) {w : World} {b c : Nat} {ps : List (Nat × Value)} (h : ChanMap w b ps) (v : Value) :
    ∃ es' clock', (Instr.mapUpdate t (.map (some b)) (.chan (some c)) v).run P w = .ok () { w with heap := w.heap.setIfInBounds b (.map es' clock') } ∧ ChanMap { w with heap := w.heap.setIfInBounds b (.map es' clock') } b (putC c v ps) := by
  obtain ⟨es, clock, hb, he⟩ := h
  have hz := (Array.getElem?_eq_some_iff.1 hb).1
  cases hq : findC c ps 0 with
  | none =>
    refine ⟨es.push ⟨.chan (some c), v, clock⟩, clock + 1, ?_, es.push ⟨.chan (some c), v, clock⟩, clock + 1, by simp [hz], ?_⟩
    · simp [Instr.mapUpdate, run_underlying ht, MapKept.run_getObj_map hb, run_checkKey_chan hk, run_findKey_chan hk c w _ _ he, hq, MapKept.run_setObj_map _ hb, Result.andThen]
    · rw [putC_none hq]
      unfold EsOf at he ⊢
      rw [Array.toList_push, List.map_append, List.map_append, he]; rfl
  | some q =>
    obtain ⟨j, x, e1, e2, e3, e4⟩ := findC_some (v := v) he hq
    have e1' : q.1 = j := by omega
    have hj : es[j]? = some x := by simpa using e2
    refine ⟨es.modify j (fun e' => { e' with key := .chan (some c), val := v }), clock, ?_, es.modify j (fun e' => { e' with key := .chan (some c), val := v }), clock, by simp [hz], ?_⟩
    · simp [Instr.mapUpdate, run_underlying ht, MapKept.run_getObj_map hb, run_checkKey_chan hk, run_findKey_chan hk c w _ _ he, hq, e1', hj, e3, run_stays_chan, MapKept.run_setObj_map _ hb, Result.andThen]
    · have : (es.modify j (fun e' => { e' with key := .chan (some c), val := v })).toList = es.toList.set j { x with key := .chan (some c), val := v } := by
        rw [Array.toList_modify, modify_eq_set _ _ _ _ e2]
      rw [this]; exact e4
/-- 'm[c]' in the walk: (at_lookup; refine wpList_lookup_chan _ rfl (.tmp ..) (.tmp ..) T ok rfl ..). -/
theorem wpList_lookup_chan {ops : Array Oper} {rest : List Oper} {o : Oper} {a : Act} {Q : Exit → Act → World → Prop} (w : World) (hg : o.guard = none) (m x : Operand) (t : TypeId) (ok : Bool) (hop : o.op = Op.lookup t m x ok) (e : TypeId)
    (ht : P.underlying t = some (.map k e)) (hk : P.underlying k = some (.chan d e0)) (z : Value) (hz : (zeroValue e).run P w = .ok z w) (b c : Nat) (ps : List (Nat × Value)) (hm : a.eval m = .map (some b)) (hx : a.eval x = .chan (some c)) (h : ChanMap w b ps)
    (hK : wpList P ops Q rest (a.put o.dst (if ok then .tuple #[(lookC c ps).getD z, .bool (lookC c ps).isSome] else (lookC c ps).getD z)) w) : wpList P ops Q (o :: rest) a w := by
  refine wpList_plain hg fun K' hK' => ?_
  have hrun := run_lookup_chan ht hk hz h (c := c) ok
  unfold Oper.wp
  simp [execOp, hop, hm, hx, hrun, Result.andThen]
  cases ok <;> exact hK' _ _ hK
/-- 'm[c] = v'. -/
theorem wpList_update_chan {ops : Array Oper} {rest : List Oper} {o : Oper} {a : Act} {Q : Exit → Act → World → Prop} (w : World) (hg : o.guard = none) (m x y : Operand) (t : TypeId) (hop : o.op = Op.mapUpdate t m x y) (e : TypeId)
    (ht : P.underlying t = some (.map k e)) (hk : P.underlying k = some (.chan d e0)) (b c : Nat) (v : Value) (ps : List (Nat × Value)) (hm : a.eval m = .map (some b)) (hx : a.eval x = .chan (some c)) (hy : a.eval y = v) (h : ChanMap w b ps)
    (hK : ∀ w' o', w' = { w with heap := w.heap.setIfInBounds b o' } → ChanMap w' b (putC c v ps) → wpList P ops Q rest (a.put o.dst undef) w') : wpList P ops Q (o :: rest) a w := by
  refine wpList_plain hg fun K' hK' => ?_
  obtain ⟨es, cl, hrun, hcm⟩ := run_update_chan ht hk h (c := c) v
  unfold Oper.wp
  simp [execOp, hop, hm, hx, hy, hrun, Result.andThen]
  exact hK' _ _ (hK _ _ rfl hcm)
open Go.ChangeMaps in
/-- The update in every world in which the map's block is this one. -/
theorem run_update_all {t e : TypeId} (ht : P.underlying t = some (.map k e)) (hk : P.underlying k = some (.chan d e0)) {b c : Nat} {es : Array MapEntry} {clock : Nat} {ps : List (Nat × Value)} (he : EsOf es.toList ps) :
    ∃ f : Value → Obj, (∀ (w : World) (v : Value), w.heap[b]? = some (.map es clock) → (Instr.mapUpdate t (.map (some b)) (.chan (some c)) v).run P w = .ok () { w with heap := w.heap.setIfInBounds b (f v) }) ∧
      ∀ v, ∃ es' clock', f v = .map es' clock' ∧ EsOf es'.toList (putC c v ps) := by
  cases hq : findC c ps 0 with
  | none =>
    refine ⟨fun v => .map (es.push ⟨.chan (some c), v, clock⟩) (clock + 1), fun w v hb => ?_, fun v => ⟨_, _, rfl, ?_⟩⟩
    · simp [Instr.mapUpdate, run_underlying ht, MapKept.run_getObj_map hb, run_checkKey_chan hk, run_findKey_chan hk c w _ _ he, hq, MapKept.run_setObj_map _ hb, Result.andThen]
    · rw [putC_none hq]
      unfold EsOf at he ⊢
      rw [Array.toList_push, List.map_append, List.map_append, he]; rfl
  | some q =>
    obtain ⟨j, x, e1, e2, e3, _⟩ := findC_some (v := .bool true) he hq
    have e1' : q.1 = j := by omega
    have hj : es[j]? = some x := by simpa using e2
    refine ⟨fun v => .map (es.modify j (fun e' => { e' with key := .chan (some c), val := v })) clock, fun w v hb => ?_, fun v => ⟨_, _, rfl, ?_⟩⟩
    · simp [Instr.mapUpdate, run_underlying ht, MapKept.run_getObj_map hb, run_checkKey_chan hk, run_findKey_chan hk c w _ _ he, hq, e1', hj, e3, run_stays_chan, MapKept.run_setObj_map _ hb, Result.andThen]
    · obtain ⟨j', x', f1, f2, f3, f4⟩ := findC_some (v := v) he hq
      have : j' = j := by omega
      subst this
      rw [e2] at f2; injection f2 with f2; subst f2
      have : (es.modify j' (fun e' => { e' with key := .chan (some c), val := v })).toList = es.toList.set j' { x with key := .chan (some c), val := v } := by
        rw [Array.toList_modify, modify_eq_set _ _ _ _ e2]
      rw [this]; exact f4
end
end Go.Proofs.YtojnnemodikpeaaDoor
