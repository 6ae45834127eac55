/-
  Maps whose keys are integers, with whatever values: a block of entries as a list of pairs.
  Bills, in plain words: what the records of each call come to.
-/
import Derived.Test.YtjcpjijihajopaaBas
import Derived.Maps.OwnSet
import Derived.Test.YtjcpjijihajopaaRecA
set_option linter.unusedSectionVars false
set_option linter.unusedSimpArgs false
set_option linter.unusedVariables false
namespace Go.Proofs.Ytjcpjijihajopaa
open Go.RowKit
set_option linter.unusedVariables false
/-- The entries read as the pairs. -/
def EsI (es : List MapEntry) (ps : List (Int × Value)) : Prop := es.map (fun e => (e.key, e.val)) = ps.map (fun p => (Value.int .i64 p.1, p.2))
def IntMap (w : World) (b : Nat) (ps : List (Int × Value)) : Prop := ∃ es clock, w.heap[b]? = some (.map es clock) ∧ EsI es.toList ps
def lookI (c : Int) : List (Int × Value) → Option Value
  | [] => none
  | p :: ps => if c = p.1 then some p.2 else lookI c ps
def putI (c : Int) (v : Value) : List (Int × Value) → List (Int × Value)
  | [] => [(c, v)]
  | p :: ps => if c = p.1 then (p.1, v) :: ps else p :: putI c v ps
def findI (c : Int) : List (Int × Value) → Nat → Option (Nat × Value)
  | [], _ => none
  | p :: ps, i => if c = p.1 then some (i, p.2) else findI c ps (i + 1)
theorem EsI.cons_inv {e : MapEntry} {es : List MapEntry} {ps : List (Int × Value)} (h : EsI (e :: es) ps) : ∃ p qs, ps = p :: qs ∧ e.key = .int .i64 p.1 ∧ e.val = p.2 ∧ EsI es qs := by
  unfold EsI at h
  cases ps with
  | nil => cases h
  | cons p qs =>
    rw [List.map_cons, List.map_cons] at h
    injection h with h1 h2
    injection h1 with h3 h4
    exact ⟨p, qs, rfl, h3, h4, h2⟩
theorem EsI.nil_inv {ps : List (Int × Value)} (h : EsI [] ps) : ps = [] := by
  unfold EsI at h; cases ps with
  | nil => rfl
  | cons p qs => cases h
section
variable {P : Program} {k : TypeId} 
theorem findNow_im (c : Int) : ∀ (es : List MapEntry) (ps : List (Int × Value)) (i : Nat), EsI es ps → Instr.findNow (.int .i64) (.int .i64 c) es i = some (findI c ps i)
  | [], ps, i, h => by rw [h.nil_inv]; rfl
  | e :: es, ps, i, h => by
    obtain ⟨p, qs, rfl, h1, h2, h3⟩ := h.cons_inv
    have ih := findNow_im c es qs (i + 1) h3
    unfold Instr.findNow
    simp only [h1, Instr.sameNow, if_true]
    by_cases hc : c = p.1
    · subst hc; simp [findI, h2]
    · have : (c == p.1) = false := by rw [beq_eq_false_iff_ne]; exact hc
      rw [this]
      simp only [findI, if_neg hc]
      exact ih
theorem run_findKey_im (hk : P.underlying k = some (.int .i64)) (c : Int) (w : World) (es : List MapEntry) (ps : List (Int × Value)) (h : EsI es ps) : (Instr.findKey k (.int .i64 c) es).run P w = .ok (findI c ps 0) w := by
  unfold Instr.findKey
  simp only [Sem.run_bind, run_underlying hk, Result.andThen_ok, findNow_im c es ps 0 h, Sem.run_pure]
theorem findI_look (c : Int) : ∀ (ps : List (Int × Value)) (i : Nat), (findI c ps i).map Prod.snd = lookI c ps
  | [], _ => rfl
  | p :: ps, i => by
    unfold findI lookI
    by_cases h : c = p.1
    · rw [if_pos h, if_pos h]; rfl
    · rw [if_neg h, if_neg h]; exact findI_look c ps (i + 1)
theorem run_checkKey_im (hk : P.underlying k = some (.int .i64)) (b : Bool) (c : Int) (w : World) : (Instr.checkKey b 10000 k (.int .i64 c)).run P w = .ok () w := by
  rw [show (10000 : Nat) = 9999 + 1 by decide]
  unfold Instr.checkKey
  simp [run_underlying hk]
theorem run_lookup_im {t e : TypeId} (ht : P.underlying t = some (.map k e)) (hk : P.underlying k = some (.int .i64)) {z : Value} {w : World} (hz : (zeroValue e).run P w = .ok z w) {b : Nat} {c : Int} {ps : List (Int × Value)} (h : IntMap w b ps) (ok : Bool) :
    (Instr.lookup t (.map (some b)) (.int .i64 c) ok).run P w = .ok (if ok then .tuple #[(lookI c ps).getD z, .bool (lookI c ps).isSome] else (lookI c ps).getD z) w := by
  obtain ⟨es, clock, hb, he⟩ := h
  unfold Instr.lookup
  have hf := findI_look c ps 0
  have hg : (getObj b).run P w = .ok (.map es clock) w := by first | exact run_getObj hb | (show Sem.run P (Sem.getObj b Sem.pure) w = _; unfold Sem.run; rw [hb]; rfl) | (simp [getObj, Sem.run, hb])
  simp only [Sem.run_bind, run_underlying ht, Result.andThen_ok, hg, Sem.run_pure, run_checkKey_im hk, run_findKey_im hk c w _ _ he]
  cases hq : findI c ps 0 with
  | none =>
    rw [hq] at hf
    have hf' : lookI c ps = none := by simpa using hf.symm
    simp [hz, hf']
  | some q =>
    rw [hq] at hf
    have hf' : lookI c ps = some q.2 := by simpa using hf.symm
    simp [hf']
end
theorem putI_none {c : Int} {v : Value} : ∀ {ps : List (Int × Value)} {i : Nat}, findI c ps i = none → putI c v ps = ps ++ [(c, v)]
  | [], _, _ => rfl
  | p :: ps, i, h => by
    unfold findI at h
    by_cases hc : c = p.1
    · rw [if_pos hc] at h; cases h
    · rw [if_neg hc] at h
      unfold putI
      rw [if_neg hc, putI_none h]; rfl
theorem findI_some {c : Int} {v : Value} : ∀ {es : List MapEntry} {ps : List (Int × Value)} {i : Nat} {q : Nat × Value}, EsI es ps → findI c ps i = some q →
    ∃ j e0, q.1 = i + j ∧ es[j]? = some e0 ∧ e0.key = .int .i64 c ∧ EsI (es.set j { e0 with key := .int .i64 c, val := v }) (putI c v ps)
  | [], ps, i, q, h, hq => by rw [h.nil_inv] at hq; cases hq
  | e :: es, ps, i, q, h, hq => by
    obtain ⟨p, qs, rfl, h1, h2, h3⟩ := h.cons_inv
    unfold findI at hq
    by_cases hc : c = p.1
    · rw [if_pos hc] at hq
      injection hq with hq
      refine ⟨0, e, by rw [← hq]; rfl, rfl, by rw [h1, hc], ?_⟩
      unfold putI
      rw [if_pos hc]
      unfold EsI at h3 ⊢
      rw [List.set_cons_zero, List.map_cons, List.map_cons, h3, hc]
    · rw [if_neg hc] at hq
      obtain ⟨j, e0, e1, e2, e3, e4⟩ := findI_some (v := v) h3 hq
      refine ⟨j + 1, e0, by rw [e1]; omega, e2, e3, ?_⟩
      unfold putI
      rw [if_neg hc]
      unfold EsI at e4 ⊢
      rw [List.set_cons_succ, List.map_cons, List.map_cons, e4, h1, h2]
theorem run_stays_im {P : Program} (c : Int) (w : World) : (Instr.keyThatStays (.int .i64 c) (.int .i64 c)).run P w = .ok (.int .i64 c) w := by
  unfold Instr.keyThatStays
  rw [if_pos (by simp [Instr.sameBits])]
  rfl
section
variable {P : Program} {k : TypeId} 
open Go.ChangeMaps in
theorem run_update_im {t e : TypeId} (ht : P.underlying t = some (.map k e)) (hk : P.underlying k = some (.int .i64)) {w : World} {b : Nat} {c : Int} {ps : List (Int × Value)} (h : IntMap w b ps) (v : Value) :
    ∃ es' clock', (Instr.mapUpdate t (.map (some b)) (.int .i64 c) v).run P w = .ok () { w with heap := w.heap.setIfInBounds b (.map es' clock') } ∧ IntMap { w with heap := w.heap.setIfInBounds b (.map es' clock') } b (putI c v ps) := by
  obtain ⟨es, clock, hb, he⟩ := h
  have hz := (Array.getElem?_eq_some_iff.1 hb).1
  cases hq : findI c ps 0 with
  | none =>
    refine ⟨es.push ⟨.int .i64 c, v, clock⟩, clock + 1, ?_, es.push ⟨.int .i64 c, v, clock⟩, clock + 1, by simp [hz], ?_⟩
    · simp [Instr.mapUpdate, run_underlying ht, MapKept.run_getObj_map hb, run_checkKey_im hk, run_findKey_im hk c w _ _ he, hq, MapKept.run_setObj_map _ hb, Result.andThen]
    · rw [putI_none hq]
      unfold EsI at he ⊢
      rw [Array.toList_push, List.map_append, List.map_append, he]; rfl
  | some q =>
    obtain ⟨j, x, e1, e2, e3, e4⟩ := findI_some (v := v) he hq
    have e1' : q.1 = j := by omega
    have hj : es[j]? = some x := by simpa using e2
    refine ⟨es.modify j (fun e' => { e' with key := .int .i64 c, val := v }), clock, ?_, es.modify j (fun e' => { e' with key := .int .i64 c, val := v }), clock, by simp [hz], ?_⟩
    · simp [Instr.mapUpdate, run_underlying ht, MapKept.run_getObj_map hb, run_checkKey_im hk, run_findKey_im hk c w _ _ he, hq, e1', hj, e3, run_stays_im, MapKept.run_setObj_map _ hb, Result.andThen]
    · have : (es.modify j (fun e' => { e' with key := .int .i64 c, val := v })).toList = es.toList.set j { x with key := .int .i64 c, val := v } := by
        rw [Array.toList_modify, modify_eq_set _ _ _ _ e2]
      rw [this]; exact e4
/-- 'm[c]' in the walk: (at_lookup; refine wpList_lookup_im _ rfl (.tmp ..) (.tmp ..) T ok rfl ..). -/
theorem wpList_lookup_im {ops : Array Oper} {rest : List Oper} {o : Oper} {a : Act} {Q : Exit → Act → World → Prop} (w : World) (hg : o.guard = none) (m x : Operand) (t : TypeId) (ok : Bool) (hop : o.op = Op.lookup t m x ok) (e : TypeId)
    (ht : P.underlying t = some (.map k e)) (hk : P.underlying k = some (.int .i64)) (z : Value) (hz : (zeroValue e).run P w = .ok z w) (b : Nat) (c : Int) (ps : List (Int × Value)) (hm : a.eval m = .map (some b)) (hx : a.eval x = .int .i64 c) (h : IntMap w b ps)
    (hK : wpList P ops Q rest (a.put o.dst (if ok then .tuple #[(lookI c ps).getD z, .bool (lookI c ps).isSome] else (lookI c ps).getD z)) w) : wpList P ops Q (o :: rest) a w := by
  refine wpList_plain hg fun K' hK' => ?_
  have hrun := run_lookup_im ht hk hz h (c := c) ok
  unfold Oper.wp
  simp [execOp, hop, hm, hx, hrun, Result.andThen]
  cases ok <;> exact hK' _ _ hK
/-- 'm[c] = v'. -/
theorem wpList_update_im {ops : Array Oper} {rest : List Oper} {o : Oper} {a : Act} {Q : Exit → Act → World → Prop} (w : World) (hg : o.guard = none) (m x y : Operand) (t : TypeId) (hop : o.op = Op.mapUpdate t m x y) (e : TypeId)
    (ht : P.underlying t = some (.map k e)) (hk : P.underlying k = some (.int .i64)) (b : Nat) (c : Int) (v : Value) (ps : List (Int × Value)) (hm : a.eval m = .map (some b)) (hx : a.eval x = .int .i64 c) (hy : a.eval y = v) (h : IntMap w b ps)
    (hK : ∀ w' o', w' = { w with heap := w.heap.setIfInBounds b o' } → IntMap w' b (putI c v ps) → wpList P ops Q rest (a.put o.dst undef) w') : wpList P ops Q (o :: rest) a w := by
  refine wpList_plain hg fun K' hK' => ?_
  obtain ⟨es, cl, hrun, hcm⟩ := run_update_im ht hk h (c := c) v
  unfold Oper.wp
  simp [execOp, hop, hm, hx, hy, hrun, Result.andThen]
  exact hK' _ _ (hK _ _ rfl hcm)
open Go.ChangeMaps in
/-- The update in every world in which the map's block is this one. -/
theorem run_update_all_im {t e : TypeId} (ht : P.underlying t = some (.map k e)) (hk : P.underlying k = some (.int .i64)) {b : Nat} {c : Int} {es : Array MapEntry} {clock : Nat} {ps : List (Int × Value)} (he : EsI es.toList ps) :
    ∃ f : Value → Obj, (∀ (w : World) (v : Value), w.heap[b]? = some (.map es clock) → (Instr.mapUpdate t (.map (some b)) (.int .i64 c) v).run P w = .ok () { w with heap := w.heap.setIfInBounds b (f v) }) ∧
      ∀ v, ∃ es' clock', f v = .map es' clock' ∧ EsI es'.toList (putI c v ps) := by
  cases hq : findI c ps 0 with
  | none =>
    refine ⟨fun v => .map (es.push ⟨.int .i64 c, v, clock⟩) (clock + 1), fun w v hb => ?_, fun v => ⟨_, _, rfl, ?_⟩⟩
    · simp [Instr.mapUpdate, run_underlying ht, MapKept.run_getObj_map hb, run_checkKey_im hk, run_findKey_im hk c w _ _ he, hq, MapKept.run_setObj_map _ hb, Result.andThen]
    · rw [putI_none hq]
      unfold EsI at he ⊢
      rw [Array.toList_push, List.map_append, List.map_append, he]; rfl
  | some q =>
    obtain ⟨j, x, e1, e2, e3, _⟩ := findI_some (v := .bool true) he hq
    have e1' : q.1 = j := by omega
    have hj : es[j]? = some x := by simpa using e2
    refine ⟨fun v => .map (es.modify j (fun e' => { e' with key := .int .i64 c, val := v })) clock, fun w v hb => ?_, fun v => ⟨_, _, rfl, ?_⟩⟩
    · simp [Instr.mapUpdate, run_underlying ht, MapKept.run_getObj_map hb, run_checkKey_im hk, run_findKey_im hk c w _ _ he, hq, e1', hj, e3, run_stays_im, MapKept.run_setObj_map _ hb, Result.andThen]
    · obtain ⟨j', x', f1, f2, f3, f4⟩ := findI_some (v := v) he hq
      have : j' = j := by omega
      subst this
      rw [e2] at f2; injection f2 with f2; subst f2
      have : (es.modify j' (fun e' => { e' with key := .int .i64 c, val := v })).toList = es.toList.set j' { x with key := .int .i64 c, val := v } := by
        rw [Array.toList_modify, modify_eq_set _ _ _ _ e2]
      rw [this]; exact f4
end
end Go.Proofs.Ytjcpjijihajopaa
namespace Go.Proofs.Ytjcpjijihajopaa
open Go.RowKit
set_option linter.unusedVariables false
def talkD (d : RecD) : Int := talkF d.c d.l d.o d.f d.h d.t d.e.toList
def isDone (d : RecD) : Bool := d.e.toList == [100, 111, 110, 101]
structure BillD where
  c : Int
  t : Int
  m : Int
  g : Int
 deriving DecidableEq
structure Trf where
  f : Int
  s : Int
  p : Int
def Trf.ok (T : Trf) : Bool := tariffB T.f T.s T.p
def Trf.val (T : Trf) : Value := .agg #[.int .i64 T.f, .int .i64 T.s, .int .i64 T.p]
def BillD.cells (b : BillD) : List Value := [.int .i64 b.c, .int .i64 b.t, .int .i64 b.m, .int .i64 b.g]
def BillD.val (b : BillD) : Value := .agg #[.int .i64 b.c, .int .i64 b.t, .int .i64 b.m, .int .i64 b.g]
def bills (bs : List BillD) : List Value := bs.flatMap BillD.cells
def pickT (c : Int) (d : RecD) : Int := if d.c = c ∧ isDone d = true then 1 else 0
def pickM (c : Int) (d : RecD) : Int := if d.c = c ∧ isDone d = true then talkD d else 0
def pickG (T : Trf) (c : Int) (d : RecD) : Int := if d.c = c ∧ isDone d = true then chargeF T.f T.s T.p (talkD d) else 0
def billFor (T : Trf) (rs : List RecD) (c : Int) : BillD := ⟨c, sumR (pickT c) rs, sumR (pickM c) rs, sumR (pickG T c) rs⟩
def billAt (T : Trf) (rs : List RecD) (i : Nat) : Option BillD := if 0 < (billFor T rs ((i : Int) + 1)).t then some (billFor T rs ((i : Int) + 1)) else none
def billsTo (T : Trf) (rs : List RecD) (n : Nat) : List BillD := (List.range n).filterMap (billAt T rs)
def billOk (T : Trf) (rs : List RecD) : Bool := T.ok && validR rs
def billsM (T : Trf) (rs : List RecD) : List BillD := if billOk T rs then billsTo T rs 99 else []
def totalM (T : Trf) (rs : List RecD) : Int := if billOk T rs then ((billsTo T rs 99).map (·.g)).sum else -1
theorem billsTo_succ (T : Trf) (rs : List RecD) (n : Nat) : billsTo T rs (n + 1) = billsTo T rs n ++ (billAt T rs n).toList := by
  unfold billsTo
  rw [List.range_succ, List.filterMap_append]
  congr 1
theorem billAt_some {T : Trf} {rs : List RecD} {n : Nat} (h : 0 < (billFor T rs ((n : Int) + 1)).t) : billAt T rs n = some (billFor T rs ((n : Int) + 1)) := if_pos h
theorem billAt_none {T : Trf} {rs : List RecD} {n : Nat} (h : ¬ 0 < (billFor T rs ((n : Int) + 1)).t) : billAt T rs n = none := if_neg h
theorem billsTo_some {T : Trf} {rs : List RecD} {n : Nat} (h : 0 < (billFor T rs ((n : Int) + 1)).t) : billsTo T rs (n + 1) = billsTo T rs n ++ [billFor T rs ((n : Int) + 1)] := by rw [billsTo_succ, billAt_some h]; rfl
theorem billsTo_none {T : Trf} {rs : List RecD} {n : Nat} (h : ¬ 0 < (billFor T rs ((n : Int) + 1)).t) : billsTo T rs (n + 1) = billsTo T rs n := by rw [billsTo_succ, billAt_none h]; simp
theorem billsTo_len (T : Trf) (rs : List RecD) (n : Nat) : (billsTo T rs n).length ≤ n := by
  unfold billsTo
  exact Nat.le_trans (List.length_filterMap_le _ _) (by simp)
theorem bills_len (bs : List BillD) : (bills bs).length = bs.length * 4 := flat_len BillD.cells (s := 4) (fun _ => rfl) bs
theorem bills_get {bs : List BillD} {k : Nat} {b : BillD} (h : bs[k]? = some b) : (bills bs)[k * 4 + 0]? = some (.int .i64 b.c) ∧ (bills bs)[k * 4 + 1]? = some (.int .i64 b.t) ∧ (bills bs)[k * 4 + 2]? = some (.int .i64 b.m) ∧ (bills bs)[k * 4 + 3]? = some (.int .i64 b.g) := by
  have e : ∀ i, i < 4 → (bills bs)[k * 4 + i]? = (BillD.cells b)[i]? := fun i hi => by
    unfold bills
    rw [flat_get BillD.cells (s := 4) (fun _ => rfl) bs k i hi, h]; rfl
  exact ⟨e 0 (by omega), e 1 (by omega), e 2 (by omega), e 3 (by omega)⟩
/-! ### bounds -/
theorem talk_bound {d : RecD} (h : recOk d = true) : talkD d ≤ 3600 ∧ (isDone d = true → 0 ≤ talkD d) := by
  have h' : recP d.c d.l d.o d.f d.h d.t d.e.toList := of_decide_eq_true h
  unfold talkD talkF
  by_cases hd : d.e.toList = [100, 111, 110, 101]
  · have : 0 ≤ d.t - d.h ∧ d.t - d.h ≤ 3600 := by
      simp only [recP, hd] at h'
      simp at h'
      omega
    rw [if_pos ⟨h, hd⟩]
    omega
  · rw [if_neg (fun x => hd x.2)]
    refine ⟨by omega, fun x => ?_⟩
    simp [isDone] at x
    exact absurd x hd
theorem pick_bounds {T : Trf} {d : RecD} {c : Int} (hT : T.ok = true) (h : recOk d = true) : 0 ≤ pickT c d ∧ pickT c d ≤ 1 ∧ 0 ≤ pickM c d ∧ pickM c d ≤ 3600 ∧ 0 ≤ pickG T c d ∧ pickG T c d ≤ 3660000 := by
  have ht := talk_bound h
  unfold pickT pickM pickG
  by_cases hc : d.c = c ∧ isDone d = true
  · rw [if_pos hc, if_pos hc, if_pos hc]
    have := chargeF_bounds (m := talkD d) hT (ht.2 hc.2) ht.1
    have := ht.2 hc.2
    omega
  · rw [if_neg hc, if_neg hc, if_neg hc]
    omega
theorem sumR_le {f : RecD → Int} {B : Int} {ds : List RecD} (hB : 0 ≤ B) (h : ∀ d ∈ ds, 0 ≤ f d ∧ f d ≤ B) (k : Nat) : 0 ≤ sumR f (ds.take k) ∧ sumR f (ds.take k) ≤ B * k := by
  induction k with
  | zero => simp [sumR]
  | succ k ih =>
    have e : B * ((k + 1 : Nat) : Int) = B * k + B := by push_cast; rw [Int.mul_add, Int.mul_one]
    rw [e]
    by_cases hk : k < ds.length
    · rw [sumR_succ (List.getElem?_eq_getElem hk)]
      have := h ds[k] (List.getElem_mem hk)
      omega
    · rw [List.take_of_length_le (by omega)]
      rw [List.take_of_length_le (by omega)] at ih
      omega
theorem validR_parts {ds : List RecD} (h : validR ds = true) : ds.length ≤ 60 ∧ ∀ d ∈ ds, recOk d = true := by
  simp only [validR, Bool.and_eq_true, decide_eq_true_eq, List.all_eq_true] at h
  exact h
theorem take_ge {f : RecD → Int} {ds : List RecD} {k : Nat} (h : ds.length ≤ k) : sumR f (ds.take k) = sumR f (ds.take ds.length) := by rw [List.take_of_length_le h, List.take_of_length_le (Nat.le_refl _)]
/-- The bounds of a bill of the first k records. -/
theorem billFor_bounds {T : Trf} {rs : List RecD} (h : billOk T rs = true) (k : Nat) (c : Int) : 0 ≤ (billFor T (rs.take k) c).t ∧ (billFor T (rs.take k) c).t ≤ 60 ∧ 0 ≤ (billFor T (rs.take k) c).m ∧ (billFor T (rs.take k) c).m ≤ 216000 ∧ 0 ≤ (billFor T (rs.take k) c).g ∧ (billFor T (rs.take k) c).g ≤ 219600000 := by
  simp only [billOk, Bool.and_eq_true] at h
  obtain ⟨h60, hall⟩ := validR_parts h.2
  have hp : ∀ d ∈ rs, _ := fun d hd => pick_bounds (c := c) h.1 (hall d hd)
  have e : ∃ j, j ≤ 60 ∧ rs.take k = rs.take j := by
    rcases Nat.lt_or_ge k 60 with x | x
    · exact ⟨k, by omega, rfl⟩
    · exact ⟨60, Nat.le_refl _, by rw [List.take_of_length_le (by omega), List.take_of_length_le h60]⟩
  obtain ⟨j, hj, e⟩ := e
  rw [e]
  have h1 := sumR_le (B := 1) (by omega) (fun d hd => ⟨(hp d hd).1, (hp d hd).2.1⟩) j
  have h2 := sumR_le (B := 3600) (by omega) (fun d hd => ⟨(hp d hd).2.2.1, (hp d hd).2.2.2.1⟩) j
  have h3 := sumR_le (B := 3660000) (by omega) (fun d hd => ⟨(hp d hd).2.2.2.2.1, (hp d hd).2.2.2.2.2⟩) j
  simp only [billFor]
  omega
/-- Nothing is picked: nothing is owed. -/
theorem billFor_zero {T : Trf} {rs : List RecD} {c : Int} : (billFor T rs c).t ≤ 0 → (billFor T rs c).m = 0 ∧ (billFor T rs c).g = 0 ∧ (billFor T rs c).t = 0 := by
  simp only [billFor]
  induction rs with
  | nil => intro _; simp [sumR]
  | cons d rs ih =>
    intro h
    have hs : ∀ f : RecD → Int, sumR f (d :: rs) = f d + sumR f rs := fun f => by simp [sumR]
    have ht : ∀ rs : List RecD, 0 ≤ sumR (pickT c) rs := by
      intro rs
      induction rs with
      | nil => simp [sumR]
      | cons x xs ihx =>
        have : sumR (pickT c) (x :: xs) = pickT c x + sumR (pickT c) xs := by simp [sumR]
        rw [this]
        have : 0 ≤ pickT c x := by unfold pickT; split <;> omega
        omega
    rw [hs, hs, hs]
    rw [hs] at h
    have h0 := ht rs
    by_cases hc : d.c = c ∧ isDone d = true
    · have : pickT c d = 1 := if_pos hc
      omega
    · have e1 : pickT c d = 0 := if_neg hc
      have e2 : pickM c d = 0 := if_neg hc
      have e3 : pickG T c d = 0 := if_neg hc
      have := ih (by omega)
      omega
theorem billFor_succ {T : Trf} {rs : List RecD} {k : Nat} {d : RecD} (h : rs[k]? = some d) (c : Int) : billFor T (rs.take (k + 1)) c = ⟨c, (billFor T (rs.take k) c).t + pickT c d, (billFor T (rs.take k) c).m + pickM c d, (billFor T (rs.take k) c).g + pickG T c d⟩ := by
  unfold billFor
  rw [sumR_succ h, sumR_succ h, sumR_succ h]
/-! ### the map of bills -/
theorem lookI_putI_same (c : Int) (v : Value) : ∀ ps : List (Int × Value), lookI c (putI c v ps) = some v
  | [] => by simp [putI, lookI]
  | p :: ps => by
    unfold putI
    by_cases h : c = p.1
    · rw [if_pos h]; unfold lookI; rw [if_pos h]
    · rw [if_neg h]; unfold lookI; rw [if_neg h]; exact lookI_putI_same c v ps
theorem lookI_putI_other {c c' : Int} (v : Value) (hne : c' ≠ c) : ∀ ps : List (Int × Value), lookI c' (putI c v ps) = lookI c' ps
  | [] => by simp [putI, lookI, hne]
  | p :: ps => by
    unfold putI
    by_cases h : c = p.1
    · rw [if_pos h]
      unfold lookI
      simp only
      rw [if_neg (by omega), if_neg (by omega)]
    · rw [if_neg h]
      unfold lookI
      by_cases h' : c' = p.1
      · rw [if_pos h', if_pos h']
      · rw [if_neg h', if_neg h']; exact lookI_putI_other v hne ps
/-- What the map holds behind some records. -/
def BillsIn (T : Trf) (rs : List RecD) (ps : List (Int × Value)) : Prop := ∀ c, lookI c ps = if 0 < (billFor T rs c).t then some (billFor T rs c).val else none
theorem billsIn_nil (T : Trf) : BillsIn T [] [] := by
  intro c
  have : (billFor T [] c).t = 0 := by simp [billFor, sumR]
  rw [this, if_neg (by omega)]; rfl
abbrev zeroBill : Value := .agg #[.int .i64 0, .int .i64 0, .int .i64 0, .int .i64 0]
/-- What is found for a call, but for the call's number. -/
theorem billsIn_get {T : Trf} {rs : List RecD} {ps : List (Int × Value)} (h : BillsIn T rs ps) (c : Int) : ∃ x, (lookI c ps).getD zeroBill = .agg #[.int .i64 x, .int .i64 (billFor T rs c).t, .int .i64 (billFor T rs c).m, .int .i64 (billFor T rs c).g] := by
  rw [h c]
  by_cases ht : 0 < (billFor T rs c).t
  · rw [if_pos ht]; exact ⟨_, rfl⟩
  · rw [if_neg ht]
    obtain ⟨h1, h2, h3⟩ := billFor_zero (T := T) (rs := rs) (c := c) (by omega)
    exact ⟨0, by rw [h1, h2, h3]; rfl⟩
theorem billsIn_skip {T : Trf} {rs : List RecD} {ps : List (Int × Value)} {k : Nat} {d : RecD} (h : BillsIn T (rs.take k) ps) (hd : rs[k]? = some d) (hn : isDone d = false) : BillsIn T (rs.take (k + 1)) ps := by
  intro c
  rw [billFor_succ hd c]
  have hc : ¬ (d.c = c ∧ isDone d = true) := fun x => by rw [hn] at x; cases x.2
  have e1 : pickT c d = 0 := if_neg hc
  have e2 : pickM c d = 0 := if_neg hc
  have e3 : pickG T c d = 0 := if_neg hc
  rw [e1, e2, e3, Int.add_zero, Int.add_zero, Int.add_zero]
  exact h c
theorem billsIn_put {T : Trf} {rs : List RecD} {ps : List (Int × Value)} {k : Nat} {d : RecD} (h : BillsIn T (rs.take k) ps) (hd : rs[k]? = some d) (hn : isDone d = true) (ht : 0 ≤ (billFor T (rs.take k) d.c).t) :
    BillsIn T (rs.take (k + 1)) (putI d.c (BillD.val ⟨d.c, (billFor T (rs.take k) d.c).t + 1, (billFor T (rs.take k) d.c).m + talkD d, (billFor T (rs.take k) d.c).g + chargeF T.f T.s T.p (talkD d)⟩) ps) := by
  intro c
  by_cases hc : c = d.c
  · subst hc
    rw [lookI_putI_same, billFor_succ hd]
    have hcc : d.c = d.c ∧ isDone d = true := ⟨rfl, hn⟩
    have e1 : pickT d.c d = 1 := if_pos hcc
    have e2 : pickM d.c d = talkD d := if_pos hcc
    have e3 : pickG T d.c d = chargeF T.f T.s T.p (talkD d) := if_pos hcc
    rw [e1, e2, e3]
    simp only
    rw [if_pos (by omega)]
  · rw [lookI_putI_other _ hc, billFor_succ hd c]
    have hcc : ¬ (d.c = c ∧ isDone d = true) := fun x => hc x.1.symm
    have e1 : pickT c d = 0 := if_neg hcc
    have e2 : pickM c d = 0 := if_neg hcc
    have e3 : pickG T c d = 0 := if_neg hcc
    rw [e1, e2, e3, Int.add_zero, Int.add_zero, Int.add_zero]
    exact h c
end Go.Proofs.Ytjcpjijihajopaa
