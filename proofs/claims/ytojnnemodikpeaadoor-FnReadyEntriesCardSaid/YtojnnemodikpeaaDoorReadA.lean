/-
  The switchboard: isEnded of no line, readyLine.
  The switchboard: readyLine.
  The switchboard: readyLine whatever the line, readyIn.
  The reference's ready entries.
  ReadyEntries, of the reference and of the program.
-/
import Derived.Test.YtojnnemodikpeaaDoorSwDoA
import Derived.Test.YtojnnemodikpeaaDoorTabA
import Derived.Test.YtojnnemodikpeaaDoorRunA
import Derived.Test.YtojnnemodikpeaaDoorImplR
namespace Go.Proofs.YtojnnemodikpeaaDoor
open Go.RowKit Go.Conc
set_option linter.unusedVariables false
section
variable {P : Program} {k : TypeId} {d : ChanDir} {e0 : TypeId}
theorem run_findAsking_nil (hk : P.underlying k = some (.chan d e0)) (w : World) : ∀ (es : List MapEntry) (ps : List (Nat × Value)) (i : Nat), EsOf es ps → (Instr.findAsking k (.chan none) es i).run P w = .ok none w
  | [], ps, i, h => rfl
  | e :: es, ps, i, h => by
    obtain ⟨p, qs, rfl, h1, h2, h3⟩ := h.cons_inv
    have ih := run_findAsking_nil hk w es qs (i + 1) h3
    unfold Instr.findAsking
    simp only [Sem.run_bind, h1, run_equal_chan hk, Result.andThen_ok]
    have : ((none : Option Nat) == some p.1) = false := rfl
    rw [this]
    simp only [Bool.false_eq_true, if_false]
    exact ih
theorem run_findKey_nil (hk : P.underlying k = some (.chan d e0)) (w : World) (es : List MapEntry) (ps : List (Nat × Value)) (h : EsOf es ps) : (Instr.findKey k (.chan none) es).run P w = .ok none w := by
  unfold Instr.findKey
  simp only [Sem.run_bind, run_underlying hk, Result.andThen_ok]
  cases es with
  | nil => rfl
  | cons e es =>
    have : Instr.findNow (.chan d e0) (.chan none) (e :: es) 0 = none := by
      simp [Instr.findNow, Instr.sameNow]
    rw [this]
    exact run_findAsking_nil hk w _ _ 0 h
theorem run_checkKey_nil (hk : P.underlying k = some (.chan d e0)) (b : Bool) (w : World) : (Instr.checkKey b 10000 k (.chan none)).run P w = .ok () w := by
  rw [show (10000 : Nat) = 9999 + 1 by decide]
  unfold Instr.checkKey
  simp [run_underlying hk]
theorem run_lookup_nil {t e : TypeId} (ht : P.underlying t = some (.map k e)) (hk : P.underlying k = some (.chan d e0)) {z : Value} {w : World} (hz : (zeroValue e).run P w = .ok z w) {b : Nat} {ps : List (Nat × Value)} (h : ChanMap w b ps) :
    (Instr.lookup t (.map (some b)) (.chan none) true).run P w = .ok (.tuple #[z, .bool false]) w := by
  obtain ⟨es, clock, hb, he⟩ := h
  unfold Instr.lookup
  have hg : (getObj b).run P w = .ok (.map es clock) w := by first | exact run_getObj hb | (simp [getObj, Sem.run, hb])
  simp only [Sem.run_bind, run_underlying ht, Result.andThen_ok, hg, Sem.run_pure, run_checkKey_nil hk, run_findKey_nil hk w _ _ he]
  simp [hz]
theorem wpList_lookup_nil {ops : Array Oper} {rest : List Oper} {o : Oper} {a : Act} {Q : Exit → Act → World → Prop} (w : World) (hg : o.guard = none) (m x : Operand) (t : TypeId) (hop : o.op = Op.lookup t m x true) (e : TypeId)
    (ht : P.underlying t = some (.map k e)) (hk : P.underlying k = some (.chan d e0)) (z : Value) (hz : (zeroValue e).run P w = .ok z w) (b : Nat) (ps : List (Nat × Value)) (hm : a.eval m = .map (some b)) (hx : a.eval x = .chan none) (h : ChanMap w b ps)
    (hK : wpList P ops Q rest (a.put o.dst (.tuple #[z, .bool false])) w) : wpList P ops Q (o :: rest) a w := by
  refine wpList_plain hg fun K' hK' => ?_
  have hrun := run_lookup_nil ht hk hz h
  unfold Oper.wp
  simp [execOp, hop, hm, hx, hrun, Result.andThen]
  exact hK' _ _ hK
end
set_option maxHeartbeats 1000000 in
theorem isEnded_nil {w : World} {base : Nat} {S : Sw} {ls : List Ln} (h : SwOk w base S ls) :
    Calls Tryd.prog 70 #[.pointer (some ⟨S.sp, 0, none⟩), .chan none] w fun e w' => e = .returned (.bool false) ∧ w' = w := by
  obtain ⟨_, ps, hm, _⟩ := h.closed
  have ec := blk_cell h.st
  have HM := Lib.hid hm
  clear hm h
  go_enter Tryd.func70, Tryd.ntmps70
  go_wp2_with (at_lookup; refine wpList_lookup_nil _ rfl (.tmp 11) (.tmp 12) 77 rfl 3 Tryd.underlying77 und_chan (.int .i64 0) (zero_int _) S.mc ps rfl rfl HM.out ?_)
  go_ret
  exact ⟨rfl, rfl⟩
def readyF (l : Ln) (d : DeedD) : Bool :=
  if d.a = 0 then false else if d.act.toList = takeA then (decide (0 < l.held.length) || l.ended) else !l.ended && decide ((l.held.length : Int) < l.room)
theorem len_chan {W : World} {c n : Nat} {q : Array Value} {cl : Bool} {s r : Nat} (h : W.heap[c]? = some (.chan n q cl s r false)) : (Builtin.len_ #[81] 3 #[.chan (some c)]).run Tryd.prog W = .ok (.int .i64 (q.size : Int)) W := by
  simp [Builtin.len_, go_sem, underlying, getObj, Sem.run, h]
theorem cap_chan {W : World} {c n : Nat} {q : Array Value} {cl : Bool} {s r : Nat} (h : W.heap[c]? = some (.chan n q cl s r false)) : (Builtin.cap_ #[81] 3 #[.chan (some c)]).run Tryd.prog W = .ok (.int .i64 (n : Int)) W := by
  simp [Builtin.cap_, go_sem, underlying, getObj, Sem.run, h]
theorem len_chan0 (W : World) : (Builtin.len_ #[81] 3 #[.chan none]).run Tryd.prog W = .ok (.int .i64 0) W := by
  simp [Builtin.len_, go_sem, underlying]
theorem cap_chan0 (W : World) : (Builtin.cap_ #[81] 3 #[.chan none]).run Tryd.prog W = .ok (.int .i64 0) W := by
  simp [Builtin.cap_, go_sem, underlying]
end Go.Proofs.YtojnnemodikpeaaDoor
namespace Go.Proofs.YtojnnemodikpeaaDoor
open Go.RowKit Go.Conc
set_option linter.unusedVariables false
set_option maxRecDepth 20000 in
set_option maxHeartbeats 2000000 in
theorem ready0_take {w : World} {base : Nat} {S : Sw} {ls : List Ln} (h : SwOk w base S ls) (hw : base ≤ w.heap.size) {d : DeedD} (h0 : d.a = 0) (ht : d.act.toList = takeA) :
    Calls Tryd.prog 92 #[.pointer (some ⟨S.sp, 0, none⟩), .agg #[.string d.act, .int .i64 d.a, .int .i64 d.b]] w fun e w' => e = .returned (.chan none) ∧ Below w.heap.size w w' := by
  obtain ⟨s, x, y⟩ := d
  have hx : x = 0 := h0
  subst hx
  have h2 := str_is ht
  unfold takeA at h2
  have h3 : (s.toList == [112, 117, 116]) = false := by rw [show s.toList = takeA from ht]; decide
  have ec := blk_cell h.st
  have zs := blk_lt h.st
  have eg := row_cells (j := 0) (v := .chan none) h.lines (by simp [Sw.lines])
  have zg := blk_lt (row_blk h.lines).2.choose_spec.1
  have i1 : (0 : Int) < (S.cs.length : Int) + 1 := by omega
  have hln := len_chan0
  have hcp := cap_chan0
  have HH := Lib.hid h
  clear h h0 ht
  go_enter Tryd.func92, Tryd.ntmps92
  go_upto_region 1 with fail
  go_region
  go_wp2_with (go_at_call 70; refine (isEnded_nil (HH.out.below (below_drew (below_al (Below.refl _ _) _)))).mono ?_; rintro e w1 ⟨rfl, rfl⟩)
  go_ret
  exact ⟨rfl, below_drew (below_al (Below.refl _ _) _)⟩
set_option maxRecDepth 20000 in
set_option maxHeartbeats 2000000 in
theorem ready0_put {w : World} {base : Nat} {S : Sw} {ls : List Ln} (h : SwOk w base S ls) (hw : base ≤ w.heap.size) {d : DeedD} (h0 : d.a = 0) (ht : d.act.toList = putA) :
    Calls Tryd.prog 92 #[.pointer (some ⟨S.sp, 0, none⟩), .agg #[.string d.act, .int .i64 d.a, .int .i64 d.b]] w fun e w' => e = .returned (.chan none) ∧ Below w.heap.size w w' := by
  obtain ⟨s, x, y⟩ := d
  have hx : x = 0 := h0
  subst hx
  have h2 : (s.toList == [116, 97, 107, 101]) = false := by rw [show s.toList = putA from ht]; decide
  have h3 := str_is ht
  unfold putA at h3
  have ec := blk_cell h.st
  have zs := blk_lt h.st
  have eg := row_cells (j := 0) (v := .chan none) h.lines (by simp [Sw.lines])
  have zg := blk_lt (row_blk h.lines).2.choose_spec.1
  have i1 : (0 : Int) < (S.cs.length : Int) + 1 := by omega
  have hln := len_chan0
  have hcp := cap_chan0
  have HH := Lib.hid h
  clear h h0 ht
  go_enter Tryd.func92, Tryd.ntmps92
  go_upto_region 1 with fail
  go_region
  go_wp2_with (go_at_call 70; refine (isEnded_nil (HH.out.below (below_drew (below_al (Below.refl _ _) _)))).mono ?_; rintro e w1 ⟨rfl, rfl⟩)
  go_ret
  exact ⟨rfl, below_drew (below_al (Below.refl _ _) _)⟩
set_option maxRecDepth 20000 in
set_option maxHeartbeats 2000000 in
theorem ready_take_held {w : World} {base : Nat} {S : Sw} {ls : List Ln} (h : SwOk w base S ls) (hw : base ≤ w.heap.size) {d : DeedD} {i c : Nat} {l : Ln} (hc : S.cs[i]? = some c) (hl : ls[i + 1]? = some l) (h0 : d.a = (i : Int) + 1) (ht : d.act.toList = takeA) (hh : 0 < l.held.length) :
    Calls Tryd.prog 92 #[.pointer (some ⟨S.sp, 0, none⟩), .agg #[.string d.act, .int .i64 d.a, .int .i64 d.b]] w fun e w' => e = .returned (.chan (some c)) ∧ Below w.heap.size w w' := by
  obtain ⟨s, x, y⟩ := d
  have hx : x = (i : Int) + 1 := h0
  subst hx
  have h2 := str_is ht
  unfold takeA at h2
  have h3 : (s.toList == [112, 117, 116]) = false := by rw [show s.toList = takeA from ht]; decide
  have ec := blk_cell h.st
  have zs := blk_lt h.st
  have eg := row_cells (j := i + 1) (v := .chan (some c)) h.lines (by simp [Sw.lines, hc])
  have zg := blk_lt (row_blk h.lines).2.choose_spec.1
  have hic := (List.getElem?_eq_some_iff.1 hc).1
  have i0 : (0 : Int) ≤ (i : Int) + 1 := by omega
  have i1 : (i : Int) + 1 < (S.cs.length : Int) + 1 := by omega
  obtain ⟨b1, b2, s0, r0, hch⟩ := h.chans i c l hc hl
  have hch2 : ((w.alloc (.cells #[.string s, .int .i64 ((i : Int) + 1), .int .i64 y] 46)).drew).heap[c]? = some (.chan l.room.toNat (ints l.held).toArray l.ended s0 r0 false) := blk_drew (blk_alloc hch _)
  have hsz : (ints l.held).toArray.size = l.held.length := by simp [ints]
  have hln := len_chan hch2
  rw [hsz] at hln
  have hcp := cap_chan hch2
  have HH := Lib.hid (And.intro h (And.intro hc hl))
  generalize l.held.length = hn at *
  generalize l.room.toNat = rn at *
  clear h hl h0 ht hc hch hch2 hsz
  go_enter Tryd.func92, Tryd.ntmps92
  go_upto_region 1 with fail
  go_region
  go_wp2_with (go_at_call 70; refine (isEnded_any (HH.out.1.below (below_drew (below_al (Below.refl _ _) _))) HH.out.2.1 HH.out.2.2).mono ?_; rintro e w1 ⟨rfl, rfl⟩; skip)
  go_ret
  exact ⟨rfl, below_drew (below_al (Below.refl _ _) _)⟩
set_option maxRecDepth 20000 in
set_option maxHeartbeats 2000000 in
theorem ready_take_ended {w : World} {base : Nat} {S : Sw} {ls : List Ln} (h : SwOk w base S ls) (hw : base ≤ w.heap.size) {d : DeedD} {i c : Nat} {l : Ln} (hc : S.cs[i]? = some c) (hl : ls[i + 1]? = some l) (h0 : d.a = (i : Int) + 1) (ht : d.act.toList = takeA) (hh : l.held.length = 0) (he : l.ended = true) :
    Calls Tryd.prog 92 #[.pointer (some ⟨S.sp, 0, none⟩), .agg #[.string d.act, .int .i64 d.a, .int .i64 d.b]] w fun e w' => e = .returned (.chan (some c)) ∧ Below w.heap.size w w' := by
  obtain ⟨s, x, y⟩ := d
  have hx : x = (i : Int) + 1 := h0
  subst hx
  have h2 := str_is ht
  unfold takeA at h2
  have h3 : (s.toList == [112, 117, 116]) = false := by rw [show s.toList = takeA from ht]; decide
  have ec := blk_cell h.st
  have zs := blk_lt h.st
  have eg := row_cells (j := i + 1) (v := .chan (some c)) h.lines (by simp [Sw.lines, hc])
  have zg := blk_lt (row_blk h.lines).2.choose_spec.1
  have hic := (List.getElem?_eq_some_iff.1 hc).1
  have i0 : (0 : Int) ≤ (i : Int) + 1 := by omega
  have i1 : (i : Int) + 1 < (S.cs.length : Int) + 1 := by omega
  obtain ⟨b1, b2, s0, r0, hch⟩ := h.chans i c l hc hl
  have hch2 : ((w.alloc (.cells #[.string s, .int .i64 ((i : Int) + 1), .int .i64 y] 46)).drew).heap[c]? = some (.chan l.room.toNat (ints l.held).toArray l.ended s0 r0 false) := blk_drew (blk_alloc hch _)
  have hsz : (ints l.held).toArray.size = l.held.length := by simp [ints]
  have hln := len_chan hch2
  rw [hsz] at hln
  have hcp := cap_chan hch2
  have HE := Lib.hid he
  clear he
  rw [hh] at hln
  have HH := Lib.hid (And.intro h (And.intro hc hl))
  generalize l.held.length = hn at *
  generalize l.room.toNat = rn at *
  clear h hl h0 ht hc hch hch2 hsz
  go_enter Tryd.func92, Tryd.ntmps92
  go_upto_region 1 with fail
  go_region
  go_wp2_with (go_at_call 70; refine (isEnded_any (HH.out.1.below (below_drew (below_al (Below.refl _ _) _))) HH.out.2.1 HH.out.2.2).mono ?_; rintro e w1 ⟨rfl, rfl⟩; rw [HE.out])
  go_ret
  exact ⟨rfl, below_drew (below_al (Below.refl _ _) _)⟩
set_option maxRecDepth 20000 in
set_option maxHeartbeats 2000000 in
theorem ready_take_not {w : World} {base : Nat} {S : Sw} {ls : List Ln} (h : SwOk w base S ls) (hw : base ≤ w.heap.size) {d : DeedD} {i c : Nat} {l : Ln} (hc : S.cs[i]? = some c) (hl : ls[i + 1]? = some l) (h0 : d.a = (i : Int) + 1) (ht : d.act.toList = takeA) (hh : l.held.length = 0) (he : l.ended = false) :
    Calls Tryd.prog 92 #[.pointer (some ⟨S.sp, 0, none⟩), .agg #[.string d.act, .int .i64 d.a, .int .i64 d.b]] w fun e w' => e = .returned (.chan none) ∧ Below w.heap.size w w' := by
  obtain ⟨s, x, y⟩ := d
  have hx : x = (i : Int) + 1 := h0
  subst hx
  have h2 := str_is ht
  unfold takeA at h2
  have h3 : (s.toList == [112, 117, 116]) = false := by rw [show s.toList = takeA from ht]; decide
  have ec := blk_cell h.st
  have zs := blk_lt h.st
  have eg := row_cells (j := i + 1) (v := .chan (some c)) h.lines (by simp [Sw.lines, hc])
  have zg := blk_lt (row_blk h.lines).2.choose_spec.1
  have hic := (List.getElem?_eq_some_iff.1 hc).1
  have i0 : (0 : Int) ≤ (i : Int) + 1 := by omega
  have i1 : (i : Int) + 1 < (S.cs.length : Int) + 1 := by omega
  obtain ⟨b1, b2, s0, r0, hch⟩ := h.chans i c l hc hl
  have hch2 : ((w.alloc (.cells #[.string s, .int .i64 ((i : Int) + 1), .int .i64 y] 46)).drew).heap[c]? = some (.chan l.room.toNat (ints l.held).toArray l.ended s0 r0 false) := blk_drew (blk_alloc hch _)
  have hsz : (ints l.held).toArray.size = l.held.length := by simp [ints]
  have hln := len_chan hch2
  rw [hsz] at hln
  have hcp := cap_chan hch2
  have HE := Lib.hid he
  clear he
  rw [hh] at hln
  have HH := Lib.hid (And.intro h (And.intro hc hl))
  generalize l.held.length = hn at *
  generalize l.room.toNat = rn at *
  clear h hl h0 ht hc hch hch2 hsz
  go_enter Tryd.func92, Tryd.ntmps92
  go_upto_region 1 with fail
  go_region
  go_wp2_with (go_at_call 70; refine (isEnded_any (HH.out.1.below (below_drew (below_al (Below.refl _ _) _))) HH.out.2.1 HH.out.2.2).mono ?_; rintro e w1 ⟨rfl, rfl⟩; rw [HE.out])
  go_ret
  exact ⟨rfl, below_drew (below_al (Below.refl _ _) _)⟩
set_option maxRecDepth 20000 in
set_option maxHeartbeats 2000000 in
theorem ready_put_ended {w : World} {base : Nat} {S : Sw} {ls : List Ln} (h : SwOk w base S ls) (hw : base ≤ w.heap.size) {d : DeedD} {i c : Nat} {l : Ln} (hc : S.cs[i]? = some c) (hl : ls[i + 1]? = some l) (h0 : d.a = (i : Int) + 1) (ht : d.act.toList = putA) (he : l.ended = true) :
    Calls Tryd.prog 92 #[.pointer (some ⟨S.sp, 0, none⟩), .agg #[.string d.act, .int .i64 d.a, .int .i64 d.b]] w fun e w' => e = .returned (.chan none) ∧ Below w.heap.size w w' := by
  obtain ⟨s, x, y⟩ := d
  have hx : x = (i : Int) + 1 := h0
  subst hx
  have h2 : (s.toList == [116, 97, 107, 101]) = false := by rw [show s.toList = putA from ht]; decide
  have h3 := str_is ht
  unfold putA at h3
  have ec := blk_cell h.st
  have zs := blk_lt h.st
  have eg := row_cells (j := i + 1) (v := .chan (some c)) h.lines (by simp [Sw.lines, hc])
  have zg := blk_lt (row_blk h.lines).2.choose_spec.1
  have hic := (List.getElem?_eq_some_iff.1 hc).1
  have i0 : (0 : Int) ≤ (i : Int) + 1 := by omega
  have i1 : (i : Int) + 1 < (S.cs.length : Int) + 1 := by omega
  obtain ⟨b1, b2, s0, r0, hch⟩ := h.chans i c l hc hl
  have hch2 : ((w.alloc (.cells #[.string s, .int .i64 ((i : Int) + 1), .int .i64 y] 46)).drew).heap[c]? = some (.chan l.room.toNat (ints l.held).toArray l.ended s0 r0 false) := blk_drew (blk_alloc hch _)
  have hsz : (ints l.held).toArray.size = l.held.length := by simp [ints]
  have hln := len_chan hch2
  rw [hsz] at hln
  have hcp := cap_chan hch2
  have HE := Lib.hid he
  clear he
  have HH := Lib.hid (And.intro h (And.intro hc hl))
  generalize l.held.length = hn at *
  generalize l.room.toNat = rn at *
  clear h hl h0 ht hc hch hch2 hsz
  go_enter Tryd.func92, Tryd.ntmps92
  go_upto_region 1 with fail
  go_region
  go_wp2_with (go_at_call 70; refine (isEnded_any (HH.out.1.below (below_drew (below_al (Below.refl _ _) _))) HH.out.2.1 HH.out.2.2).mono ?_; rintro e w1 ⟨rfl, rfl⟩; rw [HE.out])
  go_ret
  exact ⟨rfl, below_drew (below_al (Below.refl _ _) _)⟩
set_option maxRecDepth 20000 in
set_option maxHeartbeats 2000000 in
theorem ready_put_room {w : World} {base : Nat} {S : Sw} {ls : List Ln} (h : SwOk w base S ls) (hw : base ≤ w.heap.size) {d : DeedD} {i c : Nat} {l : Ln} (hc : S.cs[i]? = some c) (hl : ls[i + 1]? = some l) (h0 : d.a = (i : Int) + 1) (ht : d.act.toList = putA) (he : l.ended = false) (hh : l.held.length < l.room.toNat) :
    Calls Tryd.prog 92 #[.pointer (some ⟨S.sp, 0, none⟩), .agg #[.string d.act, .int .i64 d.a, .int .i64 d.b]] w fun e w' => e = .returned (.chan (some c)) ∧ Below w.heap.size w w' := by
  obtain ⟨s, x, y⟩ := d
  have hx : x = (i : Int) + 1 := h0
  subst hx
  have h2 : (s.toList == [116, 97, 107, 101]) = false := by rw [show s.toList = putA from ht]; decide
  have h3 := str_is ht
  unfold putA at h3
  have ec := blk_cell h.st
  have zs := blk_lt h.st
  have eg := row_cells (j := i + 1) (v := .chan (some c)) h.lines (by simp [Sw.lines, hc])
  have zg := blk_lt (row_blk h.lines).2.choose_spec.1
  have hic := (List.getElem?_eq_some_iff.1 hc).1
  have i0 : (0 : Int) ≤ (i : Int) + 1 := by omega
  have i1 : (i : Int) + 1 < (S.cs.length : Int) + 1 := by omega
  obtain ⟨b1, b2, s0, r0, hch⟩ := h.chans i c l hc hl
  have hch2 : ((w.alloc (.cells #[.string s, .int .i64 ((i : Int) + 1), .int .i64 y] 46)).drew).heap[c]? = some (.chan l.room.toNat (ints l.held).toArray l.ended s0 r0 false) := blk_drew (blk_alloc hch _)
  have hsz : (ints l.held).toArray.size = l.held.length := by simp [ints]
  have hln := len_chan hch2
  rw [hsz] at hln
  have hcp := cap_chan hch2
  have HE := Lib.hid he
  clear he
  have HH := Lib.hid (And.intro h (And.intro hc hl))
  generalize l.held.length = hn at *
  generalize l.room.toNat = rn at *
  clear h hl h0 ht hc hch hch2 hsz
  go_enter Tryd.func92, Tryd.ntmps92
  go_upto_region 1 with fail
  go_region
  go_wp2_with (go_at_call 70; refine (isEnded_any (HH.out.1.below (below_drew (below_al (Below.refl _ _) _))) HH.out.2.1 HH.out.2.2).mono ?_; rintro e w1 ⟨rfl, rfl⟩; rw [HE.out])
  go_ret
  exact ⟨rfl, below_drew (below_al (Below.refl _ _) _)⟩
set_option maxRecDepth 20000 in
set_option maxHeartbeats 2000000 in
theorem ready_put_full {w : World} {base : Nat} {S : Sw} {ls : List Ln} (h : SwOk w base S ls) (hw : base ≤ w.heap.size) {d : DeedD} {i c : Nat} {l : Ln} (hc : S.cs[i]? = some c) (hl : ls[i + 1]? = some l) (h0 : d.a = (i : Int) + 1) (ht : d.act.toList = putA) (he : l.ended = false) (hh : ¬ l.held.length < l.room.toNat) :
    Calls Tryd.prog 92 #[.pointer (some ⟨S.sp, 0, none⟩), .agg #[.string d.act, .int .i64 d.a, .int .i64 d.b]] w fun e w' => e = .returned (.chan none) ∧ Below w.heap.size w w' := by
  obtain ⟨s, x, y⟩ := d
  have hx : x = (i : Int) + 1 := h0
  subst hx
  have h2 : (s.toList == [116, 97, 107, 101]) = false := by rw [show s.toList = putA from ht]; decide
  have h3 := str_is ht
  unfold putA at h3
  have ec := blk_cell h.st
  have zs := blk_lt h.st
  have eg := row_cells (j := i + 1) (v := .chan (some c)) h.lines (by simp [Sw.lines, hc])
  have zg := blk_lt (row_blk h.lines).2.choose_spec.1
  have hic := (List.getElem?_eq_some_iff.1 hc).1
  have i0 : (0 : Int) ≤ (i : Int) + 1 := by omega
  have i1 : (i : Int) + 1 < (S.cs.length : Int) + 1 := by omega
  obtain ⟨b1, b2, s0, r0, hch⟩ := h.chans i c l hc hl
  have hch2 : ((w.alloc (.cells #[.string s, .int .i64 ((i : Int) + 1), .int .i64 y] 46)).drew).heap[c]? = some (.chan l.room.toNat (ints l.held).toArray l.ended s0 r0 false) := blk_drew (blk_alloc hch _)
  have hsz : (ints l.held).toArray.size = l.held.length := by simp [ints]
  have hln := len_chan hch2
  rw [hsz] at hln
  have hcp := cap_chan hch2
  have HE := Lib.hid he
  clear he
  have HH := Lib.hid (And.intro h (And.intro hc hl))
  generalize l.held.length = hn at *
  generalize l.room.toNat = rn at *
  clear h hl h0 ht hc hch hch2 hsz
  go_enter Tryd.func92, Tryd.ntmps92
  go_upto_region 1 with fail
  go_region
  go_wp2_with (go_at_call 70; refine (isEnded_any (HH.out.1.below (below_drew (below_al (Below.refl _ _) _))) HH.out.2.1 HH.out.2.2).mono ?_; rintro e w1 ⟨rfl, rfl⟩; rw [HE.out])
  go_ret
  exact ⟨rfl, below_drew (below_al (Below.refl _ _) _)⟩
end Go.Proofs.YtojnnemodikpeaaDoor
namespace Go.Proofs.YtojnnemodikpeaaDoor
open Go.RowKit Go.Conc
set_option linter.unusedVariables false
def d00 : DeedD := ⟨⟨#[]⟩, 0, 0⟩
def l00 : Ln := ⟨0, [], false, []⟩
def readyUpto (k : Nat) (ls : List Ln) (ts : List DeedD) : List Int := ((List.range k).filter fun i => readyF (ls.getD (ts.getD i d00).a.toNat l00) (ts.getD i d00)).map fun i : Nat => (i : Int)
theorem readyUpto_zero (ls : List Ln) (ts : List DeedD) : readyUpto 0 ls ts = [] := rfl
theorem readyUpto_succ {k : Nat} {ls : List Ln} {ts : List DeedD} {d : DeedD} {l : Ln} (hd : ts[k]? = some d) (hl : ls[d.a.toNat]? = some l) : readyUpto (k + 1) ls ts = readyUpto k ls ts ++ (if readyF l d then [(k : Int)] else []) := by
  unfold readyUpto
  have e1 : ts.getD k d00 = d := by rw [List.getD_eq_getElem?_getD, hd]; rfl
  have e2 : ls.getD d.a.toNat l00 = l := by rw [List.getD_eq_getElem?_getD, hl]; rfl
  rw [List.range_succ, List.filter_append, List.map_append]
  congr 1
  simp only [List.filter_cons, List.filter_nil, e1, e2]
  cases readyF l d <;> simp
theorem readyUpto_len (k : Nat) (ls : List Ln) (ts : List DeedD) : (readyUpto k ls ts).length ≤ k := by
  unfold readyUpto
  rw [List.length_map]
  exact Nat.le_trans (List.length_filter_le _ _) (by simp)
theorem readyLine_any {w : World} {base : Nat} {S : Sw} {ls : List Ln} (h : SwOk w base S ls) (hw : base ≤ w.heap.size) {d : DeedD} {l : Ln} (h0 : 0 ≤ d.a) (hl : ls[d.a.toNat]? = some l) (hact : (d.act.toList == putA || d.act.toList == takeA) = true) :
    Calls Tryd.prog 92 #[.pointer (some ⟨S.sp, 0, none⟩), .agg #[.string d.act, .int .i64 d.a, .int .i64 d.b]] w fun e w' => ∃ o, e = .returned (.chan o) ∧ o.isSome = readyF l d ∧ Below w.heap.size w w' := by
  have hact' : d.act.toList = putA ∨ d.act.toList = takeA := by simpa using hact
  by_cases hz : d.a = 0
  · have hF : readyF l d = false := by unfold readyF; rw [if_pos hz]
    rw [hF]
    rcases hact' with ha | ha
    · exact (ready0_put h hw hz ha).mono (by rintro e w' ⟨rfl, hb⟩; exact ⟨none, rfl, rfl, hb⟩)
    · exact (ready0_take h hw hz ha).mono (by rintro e w' ⟨rfl, hb⟩; exact ⟨none, rfl, rfl, hb⟩)
  · obtain ⟨i, hi⟩ : ∃ i : Nat, d.a = (i : Int) + 1 := ⟨(d.a - 1).toNat, by omega⟩
    have hi' : d.a.toNat = i + 1 := by omega
    rw [hi'] at hl
    have hlen := (List.getElem?_eq_some_iff.1 hl).1
    obtain ⟨c, hc⟩ : ∃ c, S.cs[i]? = some c := ⟨_, List.getElem?_eq_getElem (by have := h.len; omega)⟩
    obtain ⟨_, hr, _⟩ := h.chans i c l hc hl
    unfold readyF
    rw [if_neg hz]
    rcases hact' with ha | ha
    · have hnt : ¬ d.act.toList = takeA := by rw [ha]; decide
      rw [if_neg hnt]
      cases he : l.ended with
      | true => exact (ready_put_ended h hw hc hl hi ha he).mono (by rintro e w' ⟨rfl, hb⟩; exact ⟨none, rfl, rfl, hb⟩)
      | false =>
        by_cases hh : l.held.length < l.room.toNat
        · exact (ready_put_room h hw hc hl hi ha he hh).mono (by rintro e w' ⟨rfl, hb⟩; exact ⟨some c, rfl, by simp; omega, hb⟩)
        · exact (ready_put_full h hw hc hl hi ha he hh).mono (by rintro e w' ⟨rfl, hb⟩; exact ⟨none, rfl, by simp; omega, hb⟩)
    · rw [if_pos ha]
      by_cases hh : 0 < l.held.length
      · exact (ready_take_held h hw hc hl hi ha hh).mono (by rintro e w' ⟨rfl, hb⟩; exact ⟨some c, rfl, by simp [hh], hb⟩)
      · have hh0 : l.held.length = 0 := by omega
        cases he : l.ended with
        | true => exact (ready_take_ended h hw hc hl hi ha hh0 he).mono (by rintro e w' ⟨rfl, hb⟩; exact ⟨some c, rfl, by simp, hb⟩)
        | false => exact (ready_take_not h hw hc hl hi ha hh0 he).mono (by rintro e w' ⟨rfl, hb⟩; exact ⟨none, rfl, by simp [hh], hb⟩)
theorem neq_chanO (o : Option Nat) (W : World) : (binOp .neq 81 (.chan o) (.chan none)).run Tryd.prog W = .ok (.bool o.isSome) W := by
  cases o <;> simp [binOp, run_equal_chan und_chan]
theorem ent_of {lines : Int} {ts : List DeedD} (h : tableB ts lines = true) : (1 ≤ ts.length ∧ ts.length ≤ 8) ∧ ∀ d ∈ ts, deedP lines d ∧ (d.act.toList == putA || d.act.toList == takeA) = true := by
  unfold tableB at h
  simp only [Bool.and_eq_true, List.all_eq_true] at h
  refine ⟨?_, fun d hd => ?_⟩
  · have := h.2; simp [inB] at this; omega
  · have := h.1.1 d hd
    unfold entB at this
    simp only [Bool.and_eq_true] at this
    exact ⟨(validB_of _ _).1 this.1.2, this.2⟩
set_option maxRecDepth 20000 in
set_option maxHeartbeats 4000000 in
theorem readyIn_any {w : World} {base : Nat} {S : Sw} {ls : List Ln} {rooms : List Int} {ts : List DeedD} (h : SwOk w base S ls) (hw : base ≤ w.heap.size) (hr : ls.length = rooms.length + 1) (ht : tableB ts rooms.length = true) {lo hi n c : Nat} {A : Option Addr} (h2 : Slc w lo hi 3 A n c (deeds ts)) :
    Calls Tryd.prog 77 #[.pointer (some ⟨S.sp, 0, none⟩), .slice A n c] w (NewV 3 1 w (ints (readyUpto ts.length ls ts))) := by
  obtain ⟨⟨t1, t8⟩, hts⟩ := ent_of ht
  have hlm := h2.deedLen
  have hn8 : n ≤ 8 := by omega
  have HT := Lib.hid (And.intro hts hr)
  have HLM := Lib.hid hlm
  have HSW := Lib.hid h
  obtain ⟨i0, hi0, hz0, hz1, hz2⟩ := info_parts info_int
  have HI := Lib.hid (And.intro hi0 (And.intro hz0 (And.intro hz1 hz2)))
  clear hi0 hz0 hz1 hz2 h hlm hts hr ht t1 t8
  go_enter Tryd.func77, Tryd.ntmps77
  go_wp2
  go_loopw [5, 11] (fun v i wr => ∃ (k g cO : Nat), k ≤ n ∧ i = .int .i64 k ∧ v = .slice (some ⟨g, 0, none⟩) (readyUpto k ls ts).length cO ∧ wr.ownsRow w.heap.size 3 1 (.slice (some ⟨g, 0, none⟩) (readyUpto k ls ts).length cO) (readyUpto k ls ts).length (ints (readyUpto k ls ts)) ∧ Below w.heap.size w wr) (fun _ i _ => n - (intOf i).toNat)
  case atStart => exact ⟨0, w.heap.size, 0, Nat.zero_le _, rfl, rfl, row_empty (Nat.le_refl _) (heap_alloc_new _ _), below_al (Below.refl _ _) _⟩
  case round =>
    obtain ⟨k, g, cO, hk, rfl, rfl, hown, B⟩ := hrel
    have HOW := Lib.hid (And.intro hown B)
    clear hown
    by_cases hlt : k < n
    · obtain ⟨b, off, d, hA, _, _, h3, hxk, hv0, hv1, hv2⟩ := (h2.below B).deedAt hlt
      subst hA
      obtain ⟨hp, hact⟩ := HT.out.1 d (List.mem_of_getElem? hxk)
      have hLt : d.a.toNat < ls.length := by
        rw [HT.out.2]
        have := hp.2.1
        have := hp.2.2.1
        omega
      obtain ⟨l, hl⟩ : ∃ l, ls[d.a.toNat]? = some l := ⟨_, List.getElem?_eq_getElem hLt⟩
      have HL := Lib.hid (readyUpto_succ hxk hl)
      have HD := Lib.hid (And.intro hp.2.1 (And.intro hl hact))
      have hlen := readyUpto_len k ls ts
      have i0' : (0 : Int) ≤ (k : Int) := by omega
      have i1 : (k : Int) < (n : Int) := by omega
      have hsw := Lib.hid (HSW.out.below B)
      have zw := B.size
      have hq := neq_chanO
      clear hxk hl hp hact hLt h2
      generalize hU : readyUpto k ls ts = U at *
      have HU := Lib.hid hU
      clear hU
      obtain ⟨t, ht⟩ : ∃ t, t = readyF l d := ⟨_, rfl⟩
      rw [← ht] at HL
      have HTE := Lib.hid ht
      clear ht
      obtain ⟨s, x, y⟩ := d
      have hwz : base ≤ wr.heap.size := Nat.le_trans hw zw
      have CALL : ∀ o, Calls Tryd.prog 92 #[.pointer (some ⟨S.sp, 0, none⟩), .agg #[.string s, .int .i64 x, .int .i64 y]] (wr.alloc o) fun e w' => ∃ o', e = .returned (.chan o') ∧ o'.isSome = t ∧ Below (wr.alloc o).heap.size (wr.alloc o) w' := fun o => by
        have := readyLine_any (d := ⟨s, x, y⟩) (hsw.out.below (below_al (Below.refl _ _) o)) (by simp; omega) HD.out.1 HD.out.2.1 HD.out.2.2
        rw [← HTE.out] at this; exact this
      have HCALL := Lib.hid CALL
      clear CALL
      cases t with
      | false =>
        go_wp2_with (go_at_call 92; refine (HCALL.out _).mono ?_; rintro e w1 ⟨o, rfl, ho, b1⟩; have hq1 := neq_chanO o; rw [ho] at hq1)
        go_roundw
        case rel =>
          have bb := below_step (below_al (Below.refl wr.heap.size wr) _) b1
          exact ⟨k + 1, g, cO, by omega, by go_num, by rw [HL.out]; simp, by rw [HL.out]; simpa using row_below' HOW.out.1 bb, below_step HOW.out.2 bb⟩
        case measure => simp [intOf]; omega
      | true =>
        obtain ⟨hi0, hz0, hz1, hz2⟩ := HI.out
        have HHI := Lib.hid hi0
        clear hi0
        go_wp2_with (first
          | (go_at_call 92; refine (HCALL.out _).mono ?_; rintro e w1 ⟨o, rfl, ho, b1⟩; have hq1 := neq_chanO o; rw [ho] at hq1; have bb := below_step (below_al (Below.refl wr.heap.size wr) _) b1; have zb := bb.size; have HBB := Lib.hid bb; clear bb b1)
          | (at_builtin; refine wpList_append_lies _ rfl (.tmp 20) (.tmp 22) 22 rfl w.heap.size 3 i0 (.int .i64 0) 1 8 Tryd.underlying22 HHI.out hz0 hz1 hz2 rfl (by decide) (.slice (some ⟨g, 0, none⟩) U.length cO) U.length _ rfl (row_below' (row_below' HOW.out.1 HBB.out) (below_al (Below.refl _ _) _)) ⟨_, 0, none⟩ 1 1 [.int .i64 k] rfl rfl (cell_one_new _ _ _) (by simp [Value.oneCell']) (by decide) (by unfold maxLen; omega) (by omega) (by simp; omega) _ rfl ?_; intro g2 c2n w4 hown2 hgr2 hat2 hlt2; have HO2 := Lib.hid hown2; have HG2 := Lib.hid hgr2; have HAT := Lib.hid hat2; clear hown2 hgr2 hat2))
        go_roundw
        case rel =>
          have hgr := HG2.out
          refine ⟨k + 1, g2, c2n, by omega, by go_num, by rw [HL.out]; simp, ?_, ?_⟩
          · rw [HL.out]; simpa [ints] using HO2.out
          · exact (below_al (below_step HOW.out.2 HBB.out) _).trans (row_below (row_below' HOW.out.1 HBB.out) hgr (by simp; omega))
        case measure => simp [intOf]; omega
    · have e : k = n := by omega
      subst e
      go_wp2
      go_ret
      obtain ⟨A', c', e', o⟩ := ownV_of_row HOW.out.1 (by decide)
      injection e' with e1 e2 e3
      subst e1 e3
      rw [HLM.out]
      exact ⟨_, _, _, rfl, o, HOW.out.2⟩
end Go.Proofs.YtojnnemodikpeaaDoor
namespace Go.Proofs.YtojnnemodikpeaaDoor
open Go.RowKit Go.Conc
set_option linter.unusedVariables false
def readyEF (rooms : List Int) (ds ts : List DeedD) : List Int × Bool := if choiceB rooms ds ts then (readyUpto ts.length (runF rooms ds).1 ts, true) else ([], false)
set_option maxRecDepth 20000 in
set_option maxHeartbeats 4000000 in
theorem spec_l5Ready {w : World} {gl N cl : Nat} {vs : List LnV} {v : LnV} {l : Ln} {d : DeedD} {P : Nat → Prop} (hrow : w.ownsRow 0 71 4 (.slice (some ⟨gl, 0, none⟩) N cl) N (lnCells vs)) (hv : vs[d.a.toNat]? = some v) (h0 : 0 ≤ d.a) (ok : LnOk w P v l) (hsm : l.held.length ≤ 1000) (hact : (d.act.toList == putA || d.act.toList == takeA) = true) :
    Calls Tryd.prog 91 #[.slice (some ⟨gl, 0, none⟩) N cl, .agg #[.string d.act, .int .i64 d.a, .int .i64 d.b]] w fun e w' => e = .returned (.bool (readyF l d)) ∧ Below w.heap.size w w' := by
  have hlen := lns_len hrow
  have hL : d.a.toNat < N := by have := (List.getElem?_eq_some_iff.1 hv).1; omega
  obtain ⟨s, x, y⟩ := d
  obtain ⟨L, rfl⟩ := Int.eq_ofNat_of_zero_le h0
  have hnh := ok.held.length
  have hro := ok.room
  have hen := ok.ended
  obtain ⟨c0, c1, c2, c3⟩ := lnCells_get hv
  have k0 := row_cells hrow c0
  have k1 := row_cells hrow c1
  have k2 := row_cells hrow c2
  have k3 := row_cells hrow c3
  simp only [Int.toNat_natCast, Nat.add_zero] at k0 k1 k2 k3 hL
  obtain ⟨_, cs, kgl, _⟩ := row_blk hrow
  have zg := blk_lt kgl
  obtain ⟨vr, vA, vn, vc, ve, vAT, vnT, vcT⟩ := v
  simp only at hro hen k0 k1 k2 k3 hnh
  subst hro hen
  have hvn : vn ≤ 1000 := by omega
  have hact' : (s.toList == [112, 117, 116]) = true ∨ (s.toList == [116, 97, 107, 101]) = true := by simpa [putA, takeA] using hact
  have hF : readyF l ⟨s, L, y⟩ = if (L : Int) = 0 then false else if s.toList = takeA then (decide (0 < vn) || l.ended) else !l.ended && decide ((vn : Int) < l.room) := by unfold readyF; rw [hnh]
  rw [hF]
  have i1 : (L : Int) < (N : Int) := by omega
  obtain ⟨t, ht⟩ : ∃ t, t = l.ended := ⟨_, rfl⟩
  rw [← ht] at k2 ⊢
  generalize l.room = R at *
  clear hF hrow hv ok hact c0 c1 c2 c3 hlen hnh ht
  have hput : s.toList = [112, 117, 116] → ¬ s.toList = [116, 97, 107, 101] := by intro e; rw [e]; decide
  by_cases hz : L = 0
  · subst hz
    go_enter Tryd.func91, Tryd.ntmps91
    go_wp2
    go_ret
    exact ⟨rfl, below_al (below_al (Below.refl _ _) _) _⟩
  · have hz' : ¬ (L : Int) = 0 := by omega
    rcases hact' with ha | ha
    · have hnt : ¬ s.toList = takeA := by have : s.toList = putA := by simpa [putA] using ha
                                          rw [this]; decide
      have hnt' : (s.toList == [116, 97, 107, 101]) = false := by simpa [takeA] using hnt
      rw [if_neg hz', if_neg hnt]
      cases t
      all_goals
        go_enter Tryd.func91, Tryd.ntmps91
        go_wp2
        go_ret
        exact ⟨ret_bool (by simp), below_al (below_al (Below.refl _ _) _) _⟩
    · have hnt : s.toList = takeA := by simpa [takeA] using ha
      rw [if_neg hz', if_pos hnt]
      by_cases hn0 : 0 < vn
      all_goals
        go_enter Tryd.func91, Tryd.ntmps91
        go_wp2
        go_ret
        exact ⟨ret_bool (by simp_all), below_al (below_al (Below.refl _ _) _) _⟩
end Go.Proofs.YtojnnemodikpeaaDoor
namespace Go.Proofs.YtojnnemodikpeaaDoor
open Go.RowKit Go.Conc
set_option linter.unusedVariables false
set_option maxRecDepth 20000 in
set_option maxHeartbeats 4000000 in
theorem spec_l5All {w w0 : World} {gl cl go co N k0 : Nat} {vs : List LnV} {s : List Ln × List (List UInt8)} {lines : Int} {ts : List DeedD} (St : RunSt w0 w gl cl go co N k0 vs s) (hN : lines + 1 = N) (hsm : ∀ l ∈ s.1, l.held.length ≤ 1000) (ht : tableB ts lines = true) {lo hi n c : Nat} {A : Option Addr} (h2 : Slc w lo hi 3 A n c (deeds ts)) :
    Calls Tryd.prog 75 #[.slice (some ⟨gl, 0, none⟩) N cl, .slice A n c] w (NewV 3 1 w (ints (readyUpto ts.length s.1 ts))) := by
  obtain ⟨⟨t1, t8⟩, hts⟩ := ent_of ht
  have hlm := h2.deedLen
  have hn8 : n ≤ 8 := by omega
  have HT := Lib.hid (And.intro hts hsm)
  have HLM := Lib.hid hlm
  have HSW := Lib.hid St
  obtain ⟨i0, hi0, hz0, hz1, hz2⟩ := info_parts info_int
  have HI := Lib.hid (And.intro hi0 (And.intro hz0 (And.intro hz1 hz2)))
  clear hi0 hz0 hz1 hz2 St hlm hts hsm ht t1 t8
  go_enter Tryd.func75, Tryd.ntmps75
  go_wp2
  go_loopw [5, 6] (fun v i wr => ∃ (k g cO : Nat), k ≤ n ∧ i = .int .i64 k ∧ v = .slice (some ⟨g, 0, none⟩) (readyUpto k s.1 ts).length cO ∧ wr.ownsRow w.heap.size 3 1 (.slice (some ⟨g, 0, none⟩) (readyUpto k s.1 ts).length cO) (readyUpto k s.1 ts).length (ints (readyUpto k s.1 ts)) ∧ Below w.heap.size w wr) (fun _ i _ => n - (intOf i).toNat)
  case atStart => exact ⟨0, w.heap.size, 0, Nat.zero_le _, rfl, rfl, row_empty (Nat.le_refl _) (heap_alloc_new _ _), below_al (Below.refl _ _) _⟩
  case round =>
    obtain ⟨k, g, cO, hk, rfl, rfl, hown, B⟩ := hrel
    have HOW := Lib.hid (And.intro hown B)
    clear hown
    by_cases hlt : k < n
    · obtain ⟨b, off, d, hA, _, _, h3, hxk, hv0, hv1, hv2⟩ := (h2.below B).deedAt hlt
      subst hA
      obtain ⟨hp, hact⟩ := HT.out.1 d (List.mem_of_getElem? hxk)
      have hLt : d.a.toNat < N := by
        have := hp.2.1
        have := hp.2.2.1
        omega
      obtain ⟨l, hl⟩ : ∃ l, s.1[d.a.toNat]? = some l := ⟨_, List.getElem?_eq_getElem (by rw [HSW.out.len]; exact hLt)⟩
      obtain ⟨v, hv⟩ : ∃ v, vs[d.a.toNat]? = some v := ⟨_, List.getElem?_eq_getElem (by rw [lns_len HSW.out.lines]; exact hLt)⟩
      have HL := Lib.hid (readyUpto_succ hxk hl)
      have hlen := readyUpto_len k s.1 ts
      have i0' : (0 : Int) ≤ (k : Int) := by omega
      have i1 : (k : Int) < (n : Int) := by omega
      have zw := B.size
      obtain ⟨q1, csr, q2, q3, q4, q5, q6⟩ := row_blk HSW.out.lines
      have hrow : wr.ownsRow 0 71 4 (.slice (some ⟨gl, 0, none⟩) N cl) N (lnCells vs) := ⟨HSW.out.lines.1, .inr ⟨gl, cl, csr, rfl, Nat.zero_le _, (B.block _ (blk_lt q2)).trans q2, q3, q4, q5, q6⟩⟩
      have ok := ((HSW.out.lns _ v l hv hl).1).below B
      have CALL := spec_l5Ready (d := d) hrow hv hp.2.1 ok (HT.out.2 l (List.mem_of_getElem? hl)) hact
      have HCALL := Lib.hid CALL
      clear CALL hxk hl hp hact hLt h2 hv ok hrow q1 q2 q3 q4 q5 q6
      generalize hU : readyUpto k s.1 ts = U at *
      have HU := Lib.hid hU
      clear hU
      generalize hTE : readyF l d = t at *
      have HTE := Lib.hid hTE
      clear hTE
      cases t with
      | false =>
        go_wp2_with (go_at_call 91; refine HCALL.out.mono ?_; rintro e w1 ⟨rfl, b1⟩)
        go_roundw
        case rel => exact ⟨k + 1, g, cO, by omega, by go_num, by rw [HL.out]; simp, by rw [HL.out]; simpa using row_below' HOW.out.1 b1, below_step HOW.out.2 b1⟩
        case measure => simp [intOf]; omega
      | true =>
        obtain ⟨hi0, hz0, hz1, hz2⟩ := HI.out
        have HHI := Lib.hid hi0
        clear hi0
        go_wp2_with (first
          | (go_at_call 91; refine HCALL.out.mono ?_; rintro e w1 ⟨rfl, b1⟩; have zb := b1.size; have HBB := Lib.hid b1; clear b1)
          | (at_builtin; refine wpList_append_lies _ rfl (.tmp 20) (.tmp 22) 22 rfl w.heap.size 3 i0 (.int .i64 0) 1 8 Tryd.underlying22 HHI.out hz0 hz1 hz2 rfl (by decide) (.slice (some ⟨g, 0, none⟩) U.length cO) U.length _ rfl (row_below' (row_below' HOW.out.1 HBB.out) (below_al (Below.refl _ _) _)) ⟨_, 0, none⟩ 1 1 [.int .i64 k] rfl rfl (cell_one_new _ _ _) (by simp [Value.oneCell']) (by decide) (by unfold maxLen; omega) (by omega) (by simp; omega) _ rfl ?_; intro g2 c2n w4 hown2 hgr2 hat2 hlt2; have HO2 := Lib.hid hown2; have HG2 := Lib.hid hgr2; have HAT := Lib.hid hat2; clear hown2 hgr2 hat2))
        go_roundw
        case rel =>
          have hgr := HG2.out
          refine ⟨k + 1, g2, c2n, by omega, by go_num, by rw [HL.out]; simp, ?_, ?_⟩
          · rw [HL.out]; simpa [ints] using HO2.out
          · exact (below_al (below_step HOW.out.2 HBB.out) _).trans (row_below (row_below' HOW.out.1 HBB.out) hgr (by simp; omega))
        case measure => simp [intOf]; omega
    · have e : k = n := by omega
      subst e
      go_wp2
      go_ret
      obtain ⟨A', c', e', o⟩ := ownV_of_row HOW.out.1 (by decide)
      injection e' with e1 e2 e3
      subst e1 e3
      rw [HLM.out]
      exact ⟨_, _, _, rfl, o, HOW.out.2⟩
theorem run_held {rooms : List Int} {ds : List DeedD} (hd : deedsB rooms ds = true) : ∀ l ∈ (runF rooms ds).1, l.held.length ≤ 60 ∧ l.taken.length ≤ 60 := by
  obtain ⟨_, _, h60, hp⟩ := deedsB_of hd
  have hs := runF_small hp ds.length
  rw [List.take_length] at hs
  intro l hl
  have := hs l hl
  omega
theorem choice_of {rooms : List Int} {ds ts : List DeedD} (h : choiceB rooms ds ts = true) : deedsB rooms ds = true ∧ tableB ts rooms.length = true := by
  unfold choiceB at h; simpa using h
set_option maxHeartbeats 4000000 in
theorem spec_ReadyEntries (lo hi n c lo2 hi2 m c2 lo3 hi3 q c3 : Nat) (A A2 A3 : Option Addr) (rooms : List Int) (ds ts : List DeedD) (w : World) (h : Slc w lo hi 1 A n c (ints rooms)) (h2 : Slc w lo2 hi2 3 A2 m c2 (deeds ds)) (h3 : Slc w lo3 hi3 3 A3 q c3 (deeds ts)) (hn : n ≤ 1048576) (hm : m ≤ 1048576) (hq : q ≤ 1048576) :
    Calls Tryd.prog 51 #[.slice A n c, .slice A2 m c2, .slice A3 q c3] w (NewVB 3 1 w (ints (readyEF rooms ds ts).1) (readyEF rooms ds ts).2) := by
  cases hd : choiceB rooms ds ts with
  | false =>
    have hF : readyEF rooms ds ts = ([], false) := by unfold readyEF; rw [hd]; rfl
    rw [hF]
    go_enter Tryd.func51, Tryd.ntmps51
    go_wp2_with (go_at_call 74; refine (spec_l5Valid _ _ _ _ _ _ _ _ _ _ _ _ _ _ _ rooms ds ts _ h h2 h3 hn hm hq).mono ?_; rintro e w1 ⟨rfl, b1⟩; rw [hd])
    go_ret2
    exact ⟨_, 0, 0, rfl, OwnV.empty _ _ _ _, below_al b1 _⟩
  | true =>
    obtain ⟨hdb, htb⟩ := choice_of hd
    have hF : readyEF rooms ds ts = (readyUpto ts.length (runF rooms ds).1 ts, true) := by unfold readyEF; rw [hd]; rfl
    rw [hF]
    have HD := Lib.hid (And.intro hd (And.intro hdb htb))
    have hrl := Lib.hid (runF_len rooms ds).1
    clear hF hd hdb htb
    go_enter Tryd.func51, Tryd.ntmps51
    go_wp2_with (first
      | (go_at_call 74; refine (spec_l5Valid _ _ _ _ _ _ _ _ _ _ _ _ _ _ _ rooms ds ts _ h h2 h3 hn hm hq).mono ?_; rintro e w1 ⟨rfl, b1⟩; rw [HD.out.1]; have h1 := h.below b1; have h21 := h2.below b1; have h31 := h3.below b1)
      | (go_at_call 60; refine (l1Run_any _ _ _ _ _ _ _ _ _ _ rooms ds _ h1 h21 HD.out.2.1).mono ?_; rintro e w2 ⟨gl, cl, go, co, vs, rfl, St⟩; have h32 := h31.below St.B; have HST := Lib.hid St; clear St)
      | (go_at_call 75; refine (spec_l5All (lines := (rooms.length : Int)) HST.out ?c1 (fun l hl => by have := (run_held HD.out.2.1 l hl).1; omega) HD.out.2.2 h32).mono ?_; (case c1 => rfl); rintro e w3 ⟨A9, n9, c9, rfl, o9, b9⟩))
    go_ret2
    have z1 := b1.size
    have z2 := HST.out.B.size
    exact ⟨_, _, _, rfl, o9.from (by omega), b1.trans ((HST.out.B.mono z1).trans (b9.mono (by omega)))⟩
set_option maxHeartbeats 4000000 in
theorem impl_ReadyEntries (lo hi n c lo2 hi2 m c2 lo3 hi3 q c3 : Nat) (A A2 A3 : Option Addr) (rooms : List Int) (ds ts : List DeedD) (w : World) (h : Slc w lo hi 1 A n c (ints rooms)) (h2 : Slc w lo2 hi2 3 A2 m c2 (deeds ds)) (h3 : Slc w lo3 hi3 3 A3 q c3 (deeds ts)) (hn : n ≤ 1048576) (hm : m ≤ 1048576) (hq : q ≤ 1048576) (ht : TabW w) :
    Calls Tryd.prog 52 #[.slice A n c, .slice A2 m c2, .slice A3 q c3] w (NewVB 3 1 w (ints (readyEF rooms ds ts).1) (readyEF rooms ds ts).2) := by
  have HT := Lib.hid ht
  clear ht
  cases hd : choiceB rooms ds ts with
  | false =>
    have hF : readyEF rooms ds ts = ([], false) := by unfold readyEF; rw [hd]; rfl
    rw [hF]
    go_enter Tryd.func52, Tryd.ntmps52
    go_wp2_with (go_at_call 76; refine (impl_choiceValid _ _ _ _ _ _ _ _ _ _ _ _ _ _ _ rooms ds ts _ h h2 h3 hn hm hq).mono ?_; rintro e w1 ⟨rfl, b1⟩; rw [hd])
    go_ret2
    exact ⟨_, 0, 0, rfl, OwnV.nil _ _ _, b1⟩
  | true =>
    obtain ⟨hdb, htb⟩ := choice_of hd
    have hF : readyEF rooms ds ts = (readyUpto ts.length (runF rooms ds).1 ts, true) := by unfold readyEF; rw [hd]; rfl
    rw [hF]
    have HD := Lib.hid (And.intro hd (And.intro hdb htb))
    have hrl := Lib.hid (runF_len rooms ds).1
    clear hF hd hdb htb
    go_enter Tryd.func52, Tryd.ntmps52
    go_wp2_with (first
      | (go_at_call 76; refine (impl_choiceValid _ _ _ _ _ _ _ _ _ _ _ _ _ _ _ rooms ds ts _ h h2 h3 hn hm hq).mono ?_; rintro e w1 ⟨rfl, b1⟩; rw [HD.out.1]; have h1 := h.below b1; have h21 := h2.below b1; have h31 := h3.below b1; have HT1 := Lib.hid (HT.out.below b1))
      | (go_at_call 63; refine (new_from h1 HD.out.2.1).mono ?_; rintro e w2 ⟨S, rfl, hsw, hln, b2⟩)
      | (go_at_call 64; refine (doAll_from hsw b2 hln HD.out.2.1 h21 HT1.out).mono ?_; rintro e w3 ⟨AL, cL, rfl, o3, hsw3, b3⟩; have h33 := h31.below b3; have HSW := Lib.hid hsw3; have HB3 := Lib.hid b3; clear hsw3 b3 o3)
      | (go_at_call 77; refine (readyIn_any HSW.out HB3.out.size hrl.out HD.out.2.2 h33).mono ?_; rintro e w4 ⟨A9, n9, c9, rfl, o9, b9⟩))
    go_ret2
    have z1 := b1.size
    have z3 := HB3.out.size
    exact ⟨_, _, _, rfl, o9.from (by omega), b1.trans ((HB3.out.mono z1).trans (b9.mono (by omega)))⟩
end Go.Proofs.YtojnnemodikpeaaDoor
