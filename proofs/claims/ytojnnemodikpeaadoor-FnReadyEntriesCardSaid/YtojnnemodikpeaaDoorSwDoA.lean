/-
  The switchboard: do.
  The switchboard: do, its cases at a line.
  The switchboard: do, a put and a look.
  The switchboard: do, a look; and do whatever the deed.
  The switchboard: do, whatever the deed.
  The switchboard: doAll.
-/
import Derived.Test.YtojnnemodikpeaaDoorSwTk
namespace Go.Proofs.YtojnnemodikpeaaDoor
open Go.RowKit Go.Conc
set_option linter.unusedVariables false
theorem SwOk.below {w w' : World} {base : Nat} {S : Sw} {ls : List Ln} (h : SwOk w base S ls) (hb : Below w.heap.size w w') : SwOk w' base S ls := by
  have k : ∀ {b : Nat} {o : Obj}, w.heap[b]? = some o → w'.heap[b]? = w.heap[b]? := fun {b o} e => hb.block b (blk_lt e)
  obtain ⟨q1, cps, ⟨es, clk, e1, e2⟩, q4⟩ := h.closed
  obtain ⟨t1, tps, ⟨es2, clk2, f1, f2⟩, t3, t4⟩ := h.taken
  refine ⟨(k h.st).trans h.st, h.sb, row_below' h.lines hb, h.len, h.head, fun i c l hc hl => ?_, h.nodup, ⟨q1, cps, ⟨es, clk, (k e1).trans e1, e2⟩, q4⟩, ⟨t1, tps, ⟨es2, clk2, (k f1).trans f1, f2⟩, fun i c l hc hl => ?_, t4⟩, h.ne⟩
  · obtain ⟨d1, d2, s, r, hd⟩ := h.chans i c l hc hl
    exact ⟨d1, d2, s, r, (k hd).trans hd⟩
  · rcases t3 i c l hc hl with hx | ⟨g, n, cc, x1, x2⟩
    · exact .inl hx
    · exact .inr ⟨g, n, cc, x1, row_below' x2 hb⟩
theorem eql_chan (a b : Option Nat) (W : World) : (binOp .eql 81 (.chan a) (.chan b)).run Tryd.prog W = .ok (.bool (a == b)) W := by
  simp [binOp, run_equal_chan und_chan]
set_option maxRecDepth 20000 in
set_option maxHeartbeats 2000000 in
theorem do_never {w : World} {base : Nat} {S : Sw} {ls : List Ln} (h : SwOk w base S ls) (hw : base ≤ w.heap.size) {d : DeedD} (h0 : d.a = 0) (hl : ¬ d.act.toList = lookA) :
    Calls Tryd.prog 87 #[.pointer (some ⟨S.sp, 0, none⟩), .agg #[.string d.act, .int .i64 d.a, .int .i64 d.b]] w fun e w' => e = .returned (.string ⟨tNever.toArray⟩) ∧ Below w.heap.size w w' := by
  obtain ⟨s, x, y⟩ := d
  have hx : x = 0 := h0
  subst hx
  have h1 : (s.toList == [108, 111, 111, 107]) = false := by rw [beq_eq_false_iff_ne]; exact hl
  have ec := blk_cell h.st
  have zs := blk_lt h.st
  have eg := row_cells (j := 0) (v := .chan none) h.lines (by simp [Sw.lines])
  have zg := blk_lt (row_blk h.lines).2.choose_spec.1
  have i1 : (0 : Int) < (S.cs.length : Int) + 1 := by omega
  have hq := fun W => eql_chan none none W
  clear h hl h0
  go_enter Tryd.func87, Tryd.ntmps87
  go_upto_region 1 with fail
  go_region
  go_wp2
  go_ret
  exact ⟨rfl, below_drew (below_al (Below.refl _ _) _)⟩
end Go.Proofs.YtojnnemodikpeaaDoor
namespace Go.Proofs.YtojnnemodikpeaaDoor
open Go.RowKit Go.Conc
set_option linter.unusedVariables false
theorem str_ne {s l : List UInt8} (h : ¬ s = l) : (s == l) = false := by rw [beq_eq_false_iff_ne]; exact h
theorem str_is {s l : List UInt8} (h : s = l) : (s == l) = true := by rw [beq_iff_eq]; exact h
set_option maxRecDepth 20000 in
set_option maxHeartbeats 2000000 in
theorem do_ended {w : World} {base : Nat} {S : Sw} {ls : List Ln} (h : SwOk w base S ls) (hw : base ≤ w.heap.size) {d : DeedD} {i c : Nat} {l : Ln} (hc : S.cs[i]? = some c) (hl : ls[i + 1]? = some l) (h0 : d.a = (i : Int) + 1) (hk : ¬ d.act.toList = lookA) (ht : ¬ d.act.toList = takeA) (he : l.ended = true) :
    Calls Tryd.prog 87 #[.pointer (some ⟨S.sp, 0, none⟩), .agg #[.string d.act, .int .i64 d.a, .int .i64 d.b]] w fun e w' => e = .returned (.string ⟨tEnded.toArray⟩) ∧ Below w.heap.size w w' := by
  obtain ⟨s, x, y⟩ := d
  have hx : x = (i : Int) + 1 := h0
  subst hx
  have h1 := str_ne hk
  have h2 := str_ne ht
  unfold lookA at h1
  unfold takeA at h2
  have ec := blk_cell h.st
  have zs := blk_lt h.st
  have eg := row_cells (j := i + 1) (v := .chan (some c)) h.lines (by simp [Sw.lines, hc])
  have zg := blk_lt (row_blk h.lines).2.choose_spec.1
  have hic := (List.getElem?_eq_some_iff.1 hc).1
  have i0 : (0 : Int) ≤ (i : Int) + 1 := by omega
  have i1 : (i : Int) + 1 < (S.cs.length : Int) + 1 := by omega
  have hq := fun W => eql_chan (some c) none W
  have HH := Lib.hid (And.intro h (And.intro hc (And.intro hl he)))
  clear h hl h0 hk ht hc he
  go_enter Tryd.func87, Tryd.ntmps87
  go_upto_region 1 with fail
  go_region
  go_wp2_with (go_at_call 70; refine (isEnded_any (HH.out.1.below (below_drew (below_al (Below.refl _ _) _))) HH.out.2.1 HH.out.2.2.1).mono ?_; rintro e w1 ⟨rfl, rfl⟩; rw [HH.out.2.2.2])
  go_ret
  exact ⟨rfl, below_drew (below_al (Below.refl _ _) _)⟩
set_option maxRecDepth 20000 in
set_option maxHeartbeats 2000000 in
theorem do_take_none {w : World} {base : Nat} {S : Sw} {ls : List Ln} (h : SwOk w base S ls) (hw : base ≤ w.heap.size) {d : DeedD} {i c : Nat} {l : Ln} (hc : S.cs[i]? = some c) (hl : ls[i + 1]? = some l) (h0 : d.a = (i : Int) + 1) (ht : d.act.toList = takeA) (hh : l.held = []) :
    Calls Tryd.prog 87 #[.pointer (some ⟨S.sp, 0, none⟩), .agg #[.string d.act, .int .i64 d.a, .int .i64 d.b]] w fun e w' => e = .returned (.string ⟨(takeF l).2.toArray⟩) ∧ Below w.heap.size w w' := by
  obtain ⟨s, x, y⟩ := d
  have hx : x = (i : Int) + 1 := h0
  subst hx
  have h2 := str_is ht
  have h1 : (s.toList == lookA) = false := by rw [show s.toList = takeA from ht]; decide
  unfold lookA at h1
  unfold takeA at h2
  have ec := blk_cell h.st
  have zs := blk_lt h.st
  have eg := row_cells (j := i + 1) (v := .chan (some c)) h.lines (by simp [Sw.lines, hc])
  have zg := blk_lt (row_blk h.lines).2.choose_spec.1
  have hic := (List.getElem?_eq_some_iff.1 hc).1
  have i0 : (0 : Int) ≤ (i : Int) + 1 := by omega
  have i1 : (i : Int) + 1 < (S.cs.length : Int) + 1 := by omega
  have hq := fun W => eql_chan (some c) none W
  have HH := Lib.hid (And.intro h (And.intro hc (And.intro hl hh)))
  clear h hl h0 ht hc hh
  go_enter Tryd.func87, Tryd.ntmps87
  go_upto_region 1 with fail
  go_region
  go_wp2_with (go_at_call 99; refine (take_none (HH.out.1.below (below_drew (below_al (Below.refl _ _) _))) HH.out.2.1 HH.out.2.2.1 HH.out.2.2.2).mono ?_; rintro e w1 ⟨rfl, rfl⟩)
  go_ret
  exact ⟨rfl, below_drew (below_al (Below.refl _ _) _)⟩
set_option maxRecDepth 20000 in
set_option maxHeartbeats 2000000 in
theorem do_take_some {w : World} {base : Nat} {S : Sw} {ls : List Ln} (h : SwOk w base S ls) (hw : base ≤ w.heap.size) {d : DeedD} {i c : Nat} {l : Ln} (hc : S.cs[i]? = some c) (hl : ls[i + 1]? = some l) (h0 : d.a = (i : Int) + 1) {x : Int} {xs : List Int} (ht : d.act.toList = takeA) (hh : l.held = x :: xs) (hx0 : 0 ≤ x) (hx1 : x ≤ 1000) (hsm : l.taken.length ≤ 1000) (htab : ∀ w', Below base w w' → Lib.TabIs Tryd.prog w' "internal/strconv.uint64pow10" .u64 Lib.pow10Tab) :
    Calls Tryd.prog 87 #[.pointer (some ⟨S.sp, 0, none⟩), .agg #[.string d.act, .int .i64 d.a, .int .i64 d.b]] w fun e w' => e = .returned (.string ⟨(takeF l).2.toArray⟩) ∧ SwOk w' base S (ls.set (i + 1) (takeF l).1) ∧ Below base w w' ∧ KeepC w w' := by
  have BW : ∀ o, Below base w ((w.alloc o).drew) := fun o => below_drew ((below_al (Below.refl _ _) o).mono hw)
  have HT := Lib.hid (And.intro hx0 (And.intro hx1 (And.intro hsm (And.intro htab BW))))
  obtain ⟨s, z, y⟩ := d
  have hx : z = (i : Int) + 1 := h0
  subst hx
  have h2 := str_is ht
  have h1 : (s.toList == lookA) = false := by rw [show s.toList = takeA from ht]; decide
  unfold lookA at h1
  unfold takeA at h2
  have ec := blk_cell h.st
  have zs := blk_lt h.st
  have eg := row_cells (j := i + 1) (v := .chan (some c)) h.lines (by simp [Sw.lines, hc])
  have zg := blk_lt (row_blk h.lines).2.choose_spec.1
  have hic := (List.getElem?_eq_some_iff.1 hc).1
  have i0 : (0 : Int) ≤ (i : Int) + 1 := by omega
  have i1 : (i : Int) + 1 < (S.cs.length : Int) + 1 := by omega
  have hq := fun W => eql_chan (some c) none W
  have HH := Lib.hid (And.intro h (And.intro hc (And.intro hl hh)))
  clear h hl h0 ht hc hh hx0 hx1 hsm htab BW
  go_enter Tryd.func87, Tryd.ntmps87
  go_upto_region 1 with fail
  go_region
  go_wp2_with (go_at_call 99; refine (take_some (HH.out.1.below (below_drew (below_al (Below.refl _ _) _))) HH.out.2.1 HH.out.2.2.1 HH.out.2.2.2 HT.out.1 HT.out.2.1 HT.out.2.2.1 (fun w' hb => HT.out.2.2.2.1 w' ((HT.out.2.2.2.2 _).trans hb))).mono ?_; rintro e w1 ⟨rfl, hs1, hb1, hk1⟩)
  go_ret
  exact ⟨rfl, hs1, (HT.out.2.2.2.2 _).trans hb1, (KeepC.below (below_drew (below_al (Below.refl _ _) _))).trans hk1⟩
set_option maxRecDepth 20000 in
set_option maxHeartbeats 2000000 in
theorem do_end {w : World} {base : Nat} {S : Sw} {ls : List Ln} (h : SwOk w base S ls) (hw : base ≤ w.heap.size) {d : DeedD} {i c : Nat} {l : Ln} (hc : S.cs[i]? = some c) (hl : ls[i + 1]? = some l) (h0 : d.a = (i : Int) + 1) (ht : d.act.toList = endA) (he : l.ended = false) (hcs : S.cs.length ≤ 6) :
    Calls Tryd.prog 87 #[.pointer (some ⟨S.sp, 0, none⟩), .agg #[.string d.act, .int .i64 d.a, .int .i64 d.b]] w fun e w' => e = .returned (.string ⟨tEnd.toArray⟩) ∧ SwOk w' base S (ls.set (i + 1) { l with ended := true }) ∧ Below base w w' ∧ KeepC w w' := by
  have BW : ∀ o, Below base w ((w.alloc o).drew) := fun o => below_drew ((below_al (Below.refl _ _) o).mono hw)
  have HT := Lib.hid (And.intro hcs BW)
  obtain ⟨s, x, y⟩ := d
  have hx : x = (i : Int) + 1 := h0
  subst hx
  have h2 := str_is ht
  have h1 : (s.toList == lookA) = false := by rw [show s.toList = endA from ht]; decide
  have h3 : (s.toList == takeA) = false := by rw [show s.toList = endA from ht]; decide
  unfold lookA at h1
  unfold takeA at h3
  unfold endA at h2
  have ec := blk_cell h.st
  have zs := blk_lt h.st
  have eg := row_cells (j := i + 1) (v := .chan (some c)) h.lines (by simp [Sw.lines, hc])
  have zg := blk_lt (row_blk h.lines).2.choose_spec.1
  have hic := (List.getElem?_eq_some_iff.1 hc).1
  have i0 : (0 : Int) ≤ (i : Int) + 1 := by omega
  have i1 : (i : Int) + 1 < (S.cs.length : Int) + 1 := by omega
  have hq := fun W => eql_chan (some c) none W
  have HH := Lib.hid (And.intro h (And.intro hc (And.intro hl he)))
  clear h hl h0 ht hc he hcs BW
  go_enter Tryd.func87, Tryd.ntmps87
  go_upto_region 1 with fail
  go_region
  go_wp2_with (first | (go_at_call 70; refine (isEnded_any (HH.out.1.below (below_drew (below_al (Below.refl _ _) _))) HH.out.2.1 HH.out.2.2.1).mono ?_; rintro e w1 ⟨rfl, rfl⟩; rw [HH.out.2.2.2]) | (go_at_call 90; refine (end_any (HH.out.1.below (below_drew (below_al (Below.refl _ _) _))) HH.out.2.1 HH.out.2.2.1 HH.out.2.2.2 HT.out.1).mono ?_; rintro e w1 ⟨rfl, hs1, hb1, hk1⟩))
  go_ret
  exact ⟨rfl, hs1, (HT.out.2 _).trans hb1, (KeepC.below (below_drew (below_al (Below.refl _ _) _))).trans hk1⟩
end Go.Proofs.YtojnnemodikpeaaDoor
namespace Go.Proofs.YtojnnemodikpeaaDoor
open Go.RowKit Go.Conc
set_option linter.unusedVariables false
/-- The switchboard behind a change of one channel's block alone: what is held there is another list. -/
theorem SwOk.held {w : World} {base : Nat} {S : Sw} {ls : List Ln} (h : SwOk w base S ls) {i c : Nat} {l : Ln} (hc : S.cs[i]? = some c) (hl : ls[i + 1]? = some l) {w' : World} {ys : List Int} {s r : Nat}
    (hk : ∀ b, b ≠ c → w'.heap[b]? = w.heap[b]?) (hch : w'.heap[c]? = some (.chan l.room.toNat (ints ys).toArray l.ended s r false)) : SwOk w' base S (ls.set (i + 1) { l with held := ys }) := by
  obtain ⟨b1, b2, s0, r0, hc0⟩ := h.chans i c l hc hl
  obtain ⟨g1, arr, g2, _⟩ := row_blk h.lines
  obtain ⟨c1, cps, ⟨es, clk, hm0, he0⟩, c3⟩ := h.closed
  obtain ⟨t1, tps, ⟨es2, clk2, hm2, he2⟩, t3, t4⟩ := h.taken
  have hi : i + 1 < ls.length := (List.getElem?_eq_some_iff.1 hl).1
  have hn : ∀ {j c' : Nat}, S.cs[j]? = some c' → j ≠ i → c' ≠ c := by
    rintro j c' hj e rfl
    exact e ((List.getElem?_inj (List.getElem?_eq_some_iff.1 hj).1 h.nodup).1 (hj.trans hc.symm))
  refine ⟨?_, h.sb, ?_, by rw [List.length_set]; exact h.len, ?_, ?_, h.nodup, ⟨c1, cps, ChanMap.at ⟨es, clk, hm0, he0⟩ (hk _ (blk_ne hm0 hc0 (by simp))), ?_⟩, ⟨t1, tps, ChanMap.at ⟨es2, clk2, hm2, he2⟩ (hk _ (blk_ne hm2 hc0 (by simp))), ?_, t4⟩, h.ne⟩
  · rw [hk _ (blk_ne h.st hc0 (by simp))]; exact h.st
  · exact row_at h.lines (hk _ (blk_ne g2 hc0 (by simp)))
  · rw [List.getElem?_set_ne (by omega)]; exact h.head
  · intro j c' l' hj hl'
    by_cases e : j = i
    · subst e
      rw [hc] at hj; injection hj with hj; subst hj
      rw [List.getElem?_set_self hi] at hl'
      injection hl' with hl'; subst hl'
      exact ⟨b1, b2, s, r, hch⟩
    · rw [List.getElem?_set_ne (by omega)] at hl'
      obtain ⟨d1, d2, s1, r1, hd⟩ := h.chans j c' l' hj hl'
      exact ⟨d1, d2, s1, r1, by rw [hk _ (hn hj e)]; exact hd⟩
  · intro j c' l' hj hl'
    by_cases e : j = i
    · subst e
      rw [List.getElem?_set_self hi] at hl'
      injection hl' with hl'; subst hl'
      exact c3 j c' l hj hl
    · rw [List.getElem?_set_ne (by omega)] at hl'
      exact c3 j c' l' hj hl'
  · intro j c' l' hj hl'
    have ht : ∀ {x : Ln}, TakenAt w base (lookC c' tps) x.taken → TakenAt w' base (lookC c' tps) x.taken := by
      intro x hx
      rcases hx with hx | ⟨g, n, cc, e1, e2⟩
      · exact .inl hx
      · obtain ⟨_, cur, k2, _⟩ := row_blk e2
        exact .inr ⟨g, n, cc, e1, row_at e2 (hk _ (blk_ne k2 hc0 (by simp)))⟩
    by_cases e : j = i
    · subst e
      rw [List.getElem?_set_self hi] at hl'
      injection hl' with hl'; subst hl'
      exact ht (x := l) (t3 j c' l hj hl)
    · rw [List.getElem?_set_ne (by omega)] at hl'
      exact ht (t3 j c' l' hj hl')
set_option maxRecDepth 20000 in
set_option maxHeartbeats 2000000 in
theorem do_full {w : World} {base : Nat} {S : Sw} {ls : List Ln} (h : SwOk w base S ls) (hw : base ≤ w.heap.size) {d : DeedD} {i c : Nat} {l : Ln} (hc : S.cs[i]? = some c) (hl : ls[i + 1]? = some l) (h0 : d.a = (i : Int) + 1) (ht : d.act.toList = putA) (he : l.ended = false) (hr : l.room ≤ l.held.length) :
    Calls Tryd.prog 87 #[.pointer (some ⟨S.sp, 0, none⟩), .agg #[.string d.act, .int .i64 d.a, .int .i64 d.b]] w fun e w' => e = .returned (.string ⟨tFull.toArray⟩) ∧ Below w.heap.size w w' := by
  obtain ⟨s, x, y⟩ := d
  have hx : x = (i : Int) + 1 := h0
  subst hx
  have h1 : (s.toList == lookA) = false := by rw [show s.toList = putA from ht]; decide
  have h2 : (s.toList == takeA) = false := by rw [show s.toList = putA from ht]; decide
  have h3 : (s.toList == endA) = false := by rw [show s.toList = putA from ht]; decide
  unfold lookA at h1
  unfold takeA at h2
  unfold endA at h3
  have ec := blk_cell h.st
  have zs := blk_lt h.st
  have eg := row_cells (j := i + 1) (v := .chan (some c)) h.lines (by simp [Sw.lines, hc])
  have zg := blk_lt (row_blk h.lines).2.choose_spec.1
  have hic := (List.getElem?_eq_some_iff.1 hc).1
  have i0 : (0 : Int) ≤ (i : Int) + 1 := by omega
  have i1 : (i : Int) + 1 < (S.cs.length : Int) + 1 := by omega
  have hq := fun W => eql_chan (some c) none W
  obtain ⟨b1, b2, s0, r0, hch⟩ := h.chans i c l hc hl
  rw [he] at hch
  have HH := Lib.hid (And.intro h (And.intro hc (And.intro hl (And.intro he (And.intro hch (And.intro b2 hr))))))
  clear h hl h0 ht hc he hch b2 hr
  go_enter Tryd.func87, Tryd.ntmps87
  go_upto_region 1 with fail
  go_region
  go_upto_region 15 with (go_at_call 70; refine (isEnded_any (HH.out.1.below (below_drew (below_al (Below.refl _ _) _))) HH.out.2.1 HH.out.2.2.1).mono ?_; rintro e w1 ⟨rfl, rfl⟩; rw [HH.out.2.2.2.1])
  refine wp_select_send_full (c := c) (u := .int .i64 y) (z' := .int .i64 0) (buf := (ints l.held).toArray) (cap := l.room.toNat) (s := s0) (r := r0) (tm := false) rfl rfl (by simp [go_sem, execOp, scase, Act.eval]) (blk_drew (blk_alloc HH.out.2.2.2.2.1 _)) (by have := HH.out.2.2.2.2.2; simp [ints]; omega) ?_
  go_wp2
  go_ret
  exact ⟨rfl, below_drew (below_al (Below.refl _ _) _)⟩
set_option maxRecDepth 20000 in
set_option maxHeartbeats 2000000 in
theorem do_put {w : World} {base : Nat} {S : Sw} {ls : List Ln} (h : SwOk w base S ls) (hw : base ≤ w.heap.size) {d : DeedD} {i c : Nat} {l : Ln} (hc : S.cs[i]? = some c) (hl : ls[i + 1]? = some l) (h0 : d.a = (i : Int) + 1) (ht : d.act.toList = putA) (he : l.ended = false) (hr : (l.held.length : Int) < l.room) :
    Calls Tryd.prog 87 #[.pointer (some ⟨S.sp, 0, none⟩), .agg #[.string d.act, .int .i64 d.a, .int .i64 d.b]] w fun e w' => e = .returned (.string ⟨tPut.toArray⟩) ∧ SwOk w' base S (ls.set (i + 1) { l with held := l.held ++ [d.b] }) ∧ Below base w w' ∧ KeepC w w' := by
  obtain ⟨s, x, y⟩ := d
  have hx : x = (i : Int) + 1 := h0
  subst hx
  have h1 : (s.toList == lookA) = false := by rw [show s.toList = putA from ht]; decide
  have h2 : (s.toList == takeA) = false := by rw [show s.toList = putA from ht]; decide
  have h3 : (s.toList == endA) = false := by rw [show s.toList = putA from ht]; decide
  unfold lookA at h1
  unfold takeA at h2
  unfold endA at h3
  have ec := blk_cell h.st
  have zs := blk_lt h.st
  have eg := row_cells (j := i + 1) (v := .chan (some c)) h.lines (by simp [Sw.lines, hc])
  have zg := blk_lt (row_blk h.lines).2.choose_spec.1
  have hic := (List.getElem?_eq_some_iff.1 hc).1
  have i0 : (0 : Int) ≤ (i : Int) + 1 := by omega
  have i1 : (i : Int) + 1 < (S.cs.length : Int) + 1 := by omega
  have hq := fun W => eql_chan (some c) none W
  obtain ⟨b1, b2, s0, r0, hch⟩ := h.chans i c l hc hl
  have BW : ∀ o, Below base w ((w.alloc o).drew) := fun o => below_drew ((below_al (Below.refl _ _) o).mono hw)
  have HH := Lib.hid (And.intro h (And.intro hc (And.intro hl (And.intro he (And.intro hch (And.intro b2 (And.intro hr (And.intro BW b1))))))))
  clear h hl h0 ht hc he hch b2 hr BW b1
  go_enter Tryd.func87, Tryd.ntmps87
  go_upto_region 1 with fail
  go_region
  go_upto_region 15 with (go_at_call 70; refine (isEnded_any (HH.out.1.below (below_drew (below_al (Below.refl _ _) _))) HH.out.2.1 HH.out.2.2.1).mono ?_; rintro e w1 ⟨rfl, rfl⟩; rw [HH.out.2.2.2.1])
  refine wp_select_send_room (c := c) (u := .int .i64 y) (z' := .int .i64 0) (buf := (ints l.held).toArray) (cap := l.room.toNat) (s := s0) (r := r0) (tm := false) rfl rfl (by simp [go_sem, execOp, scase, Act.eval]) (by have := HH.out.2.2.2.2.1; rw [HH.out.2.2.2.1] at this; exact blk_drew (blk_alloc this _)) (by have := HH.out.2.2.2.2.2.1; have := HH.out.2.2.2.2.2.2.1; simp [ints]; omega) ?_
  go_wp2
  go_ret
  obtain ⟨h, hc, hl, he, hch, b2, hr, BW, b1⟩ := HH.out
  refine ⟨rfl, ?_, below_setChan (BW _) b1 _ _ _ _ _ _, (KeepC.below (below_drew (below_al (Below.refl _ _) (.cells #[.string s, .int .i64 ((i : Int) + 1), .int .i64 y] 46)))).trans (KeepC.set (blk_drew (blk_alloc hch _)) (by simp))⟩
  have hz := blk_lt hch
  refine (h.below (below_drew (below_al (Below.refl _ _) (.cells #[.string s, .int .i64 ((i : Int) + 1), .int .i64 y] 46)))).held (s := s0 + 1) (r := r0) hc hl (fun b e => ?_) ?_
  · simp only [World.setChan]; rw [Array.getElem?_setIfInBounds_ne (fun e' => e e'.symm)]
  · rw [he, heap_setChan _ _ _ _ _ _ _ _ (by simp; omega)]
    simp [ints]
end Go.Proofs.YtojnnemodikpeaaDoor
namespace Go.Proofs.YtojnnemodikpeaaDoor
open Go.RowKit Go.Conc
set_option linter.unusedVariables false
set_option maxRecDepth 20000 in
set_option maxHeartbeats 2000000 in
theorem do_look0 {w : World} {base : Nat} {S : Sw} {ls : List Ln} (h : SwOk w base S ls) (hw : base ≤ w.heap.size) {d : DeedD} (h0 : d.a = 0) (ht : d.act.toList = lookA) :
    Calls Tryd.prog 87 #[.pointer (some ⟨S.sp, 0, none⟩), .agg #[.string d.act, .int .i64 d.a, .int .i64 d.b]] w fun e w' => e = .returned (.string ⟨(Lib.itoa 0).toArray⟩) ∧ Below w.heap.size w w' := by
  obtain ⟨s, x, y⟩ := d
  have hx : x = 0 := h0
  subst hx
  have h1 := str_is ht
  unfold lookA at h1
  have ec := blk_cell h.st
  have zs := blk_lt h.st
  have eg := row_cells (j := 0) (v := .chan none) h.lines (by simp [Sw.lines])
  have zg := blk_lt (row_blk h.lines).2.choose_spec.1
  have i1 : (0 : Int) < (S.cs.length : Int) + 1 := by omega
  have e0 : Lib.itoa 0 = Lib.decDigits 0 := Lib.itoa_nonneg 0
  have hI : ∀ W, Calls Tryd.prog 98 #[.int .i64 0] W (fun e w' => e = .returned (.string ⟨(Lib.decDigits 0).toArray⟩) ∧ w' = W) := fun W => Tryd.strconv_Itoa_small 0 (by omega) W
  have HE := Lib.hid e0
  have HI := Lib.hid hI
  clear e0 hI
  have hlen : ∀ W : World, (Builtin.len_ #[81] 3 #[.chan none]).run Tryd.prog W = .ok (.int .i64 0) W := by
    intro W
    simp [Builtin.len_, go_sem, underlying]
  clear h h0 ht
  go_enter Tryd.func87, Tryd.ntmps87
  go_upto_region 1 with fail
  go_region
  go_wp2_with (go_at_call 98; refine (HI.out _).mono ?_; rintro e w1 ⟨rfl, rfl⟩)
  go_ret
  exact ⟨by rw [HE.out]; rfl, below_drew (below_al (Below.refl _ _) _)⟩
set_option maxRecDepth 20000 in
set_option maxHeartbeats 2000000 in
theorem do_look {w : World} {base : Nat} {S : Sw} {ls : List Ln} (h : SwOk w base S ls) (hw : base ≤ w.heap.size) {d : DeedD} {i c : Nat} {l : Ln} (hc : S.cs[i]? = some c) (hl : ls[i + 1]? = some l) (h0 : d.a = (i : Int) + 1) (ht : d.act.toList = lookA) (hsm : l.held.length < 100) :
    Calls Tryd.prog 87 #[.pointer (some ⟨S.sp, 0, none⟩), .agg #[.string d.act, .int .i64 d.a, .int .i64 d.b]] w fun e w' => e = .returned (.string ⟨(Lib.itoa l.held.length).toArray⟩) ∧ Below w.heap.size w w' := by
  obtain ⟨s, x, y⟩ := d
  have hx : x = (i : Int) + 1 := h0
  subst hx
  have h1 := str_is ht
  unfold lookA at h1
  have ec := blk_cell h.st
  have zs := blk_lt h.st
  have eg := row_cells (j := i + 1) (v := .chan (some c)) h.lines (by simp [Sw.lines, hc])
  have zg := blk_lt (row_blk h.lines).2.choose_spec.1
  have hic := (List.getElem?_eq_some_iff.1 hc).1
  have i0 : (0 : Int) ≤ (i : Int) + 1 := by omega
  have i1 : (i : Int) + 1 < (S.cs.length : Int) + 1 := by omega
  obtain ⟨b1, b2, s0, r0, hch⟩ := h.chans i c l hc hl
  have hch2 : ((w.alloc (.cells #[.string s, .int .i64 ((i : Int) + 1), .int .i64 y] 46)).drew).heap[c]? = some (.chan l.room.toNat (ints l.held).toArray l.ended s0 r0 false) := blk_drew (blk_alloc hch _)
  have hln : ((ints l.held).toArray).size = l.held.length := by simp [ints]
  have hlen : ∀ W : World, W.heap[c]? = some (.chan l.room.toNat (ints l.held).toArray l.ended s0 r0 false) → (Builtin.len_ #[81] 3 #[.chan (some c)]).run Tryd.prog W = .ok (.int .i64 (l.held.length : Int)) W := by
    intro W hW
    simp [Builtin.len_, go_sem, underlying, getObj, Sem.run, hW, hln]
  have hq2 := hlen _ hch2
  clear h hl h0 ht hc hch hlen
  go_enter Tryd.func87, Tryd.ntmps87
  go_upto_region 1 with fail
  go_region
  go_wp2_with (go_at_call 98; refine (Tryd.strconv_Itoa_small l.held.length hsm _).mono ?_; rintro e w1 ⟨rfl, rfl⟩)
  go_ret
  exact ⟨by rw [Lib.itoa_nonneg]; rfl, below_drew (below_al (Below.refl _ _) _)⟩
end Go.Proofs.YtojnnemodikpeaaDoor
namespace Go.Proofs.YtojnnemodikpeaaDoor
open Go.RowKit Go.Conc
set_option linter.unusedVariables false
/-- What is small about a line. -/
def LnFit (l : Ln) : Prop := l.held.length ≤ 60 ∧ l.taken.length ≤ 60 ∧ ∀ x ∈ l.held, 0 ≤ x ∧ x ≤ 1000
theorem set_self {α : Type} {l : List α} {i : Nat} {a : α} (h : l[i]? = some a) : l.set i a = l := by
  apply List.ext_getElem?
  intro j
  by_cases e : i = j
  · subst e
    rw [List.getElem?_set_self (List.getElem?_eq_some_iff.1 h).1, h]
  · rw [List.getElem?_set_ne e]
theorem do_any {w : World} {base : Nat} {S : Sw} {ls : List Ln} (h : SwOk w base S ls) (hw : base ≤ w.heap.size) {d : DeedD} (hd : deedP S.cs.length d) (hcs : S.cs.length ≤ 6) {l : Ln} (hl : ls[d.a.toNat]? = some l) (hf : LnFit l)
    (htab : ∀ w', Below base w w' → Lib.TabIs Tryd.prog w' "internal/strconv.uint64pow10" .u64 Lib.pow10Tab) :
    Calls Tryd.prog 87 #[.pointer (some ⟨S.sp, 0, none⟩), .agg #[.string d.act, .int .i64 d.a, .int .i64 d.b]] w fun e w' =>
      e = .returned (.string ⟨(doneF l d).2.toArray⟩) ∧ SwOk w' base S (ls.set d.a.toNat (doneF l d).1) ∧ Below base w w' ∧ KeepC w w' := by
  obtain ⟨p1, p2, p3, p4, p5, p6⟩ := hd
  obtain ⟨f1, f2, f3⟩ := hf
  have still : ∀ {t : List UInt8}, doneF l d = (l, t) → (∀ (e : Ending) (w' : World), (e = .returned (.string ⟨t.toArray⟩) ∧ Below w.heap.size w w') → e = .returned (.string ⟨(doneF l d).2.toArray⟩) ∧ SwOk w' base S (ls.set d.a.toNat (doneF l d).1) ∧ Below base w w' ∧ KeepC w w') := by
    intro t ht e w' ⟨he, hb⟩
    rw [ht]
    refine ⟨he, ?_, hb.mono hw, KeepC.below hb⟩
    simp only
    rw [set_self hl]
    exact h.below hb
  by_cases h0 : d.a = 0
  · have hl0 : l = ⟨0, [], false, []⟩ := by
      rw [h0] at hl
      have := h.head
      rw [show (0 : Int).toNat = 0 from rfl, this] at hl
      injection hl with hl; exact hl.symm
    by_cases hk : d.act.toList = lookA
    · refine (do_look0 h hw h0 hk).mono (still ?_)
      unfold doneF; rw [if_pos hk, hl0]; rfl
    · refine (do_never h hw h0 hk).mono (still ?_)
      unfold doneF; rw [if_neg hk, if_pos h0]
  · obtain ⟨i, hi⟩ : ∃ i : Nat, d.a = (i : Int) + 1 := ⟨(d.a - 1).toNat, by omega⟩
    have hiL : d.a.toNat = i + 1 := by omega
    rw [hiL] at hl ⊢
    have hic : i < S.cs.length := by omega
    have hc : S.cs[i]? = some S.cs[i] := List.getElem?_eq_getElem hic
    rw [hiL] at still
    by_cases hk : d.act.toList = lookA
    · refine (do_look h hw hc hl hi hk (by omega)).mono (still ?_)
      unfold doneF; rw [if_pos hk]
    · by_cases ht : d.act.toList = takeA
      · cases hh : l.held with
        | nil =>
          have hT : takeF l = doneF l d := by
            unfold doneF takeF; rw [if_neg hk, if_neg h0, hh, ht]
            cases l.ended <;> simp
          refine (do_take_none h hw hc hl hi ht hh).mono fun e w' ⟨he, hb⟩ => still (t := (takeF l).2) ?_ e w' ⟨he, hb⟩
          rw [← hT]
          unfold takeF; rw [hh]
        | cons x xs =>
          have hT : takeF l = doneF l d := by
            unfold doneF takeF; rw [if_neg hk, if_neg h0, hh, ht]
            simp
          obtain ⟨x0, x1⟩ := f3 x (by rw [hh]; exact List.mem_cons_self)
          rw [← hT]
          exact do_take_some h hw hc hl hi ht hh x0 x1 (by omega) htab
      · have htb : (d.act.toList == takeA) = false := by rw [beq_eq_false_iff_ne]; exact ht
        cases he : l.ended with
        | true =>
          refine (do_ended h hw hc hl hi hk ht he).mono (still ?_)
          unfold doneF; rw [if_neg hk, if_neg h0, htb, he]
          cases l.held <;> simp
        | false =>
          by_cases hend : d.act.toList = endA
          · have hT : doneF l d = ({ l with ended := true }, tEnd) := by
              unfold doneF; rw [if_neg hk, if_neg h0, htb, he]
              cases l.held <;> simp [hend]
            rw [hT]
            exact do_end h hw hc hl hi hend he hcs
          · have hput : d.act.toList = putA := by
              rcases p1 with q | q | q | q
              · exact q
              · exact absurd q ht
              · exact absurd q hend
              · exact absurd q hk
            by_cases hr : l.room ≤ l.held.length
            · refine (do_full h hw hc hl hi hput he hr).mono (still ?_)
              unfold doneF; rw [if_neg hk, if_neg h0, htb, he]
              cases hh : l.held <;> rw [hh] at hr <;> simp [hend] <;> exact fun hc => absurd hr (by simpa using hc)
            · have hT : doneF l d = ({ l with held := l.held ++ [d.b] }, tPut) := by
                unfold doneF; rw [if_neg hk, if_neg h0, htb, he]
                cases hh : l.held <;> rw [hh] at hr <;> simp [hend] <;> exact fun hc => absurd hc (by simpa using hr)
              rw [hT]
              exact do_put h hw hc hl hi hput he (by omega)
end Go.Proofs.YtojnnemodikpeaaDoor
namespace Go.Proofs.YtojnnemodikpeaaDoor
open Go.RowKit Go.Conc
set_option linter.unusedVariables false
/-- The switchboard stands where its own kinds of blocks stand. -/
theorem SwOk.kept {w w' : World} {base : Nat} {S : Sw} {ls : List Ln} (h : SwOk w base S ls)
    (k : ∀ (b : Nat) (o : Obj), w.heap[b]? = some o → (∀ cs fz, o ≠ .cells cs 9 fz) → w'.heap[b]? = some o) : SwOk w' base S ls := by
  obtain ⟨g1, arr, g2, _⟩ := row_blk h.lines
  obtain ⟨q1, cps, ⟨es, clk, e1, e2⟩, q4⟩ := h.closed
  obtain ⟨t1, tps, ⟨es2, clk2, f1, f2⟩, t3, t4⟩ := h.taken
  refine ⟨k _ _ h.st (by simp), h.sb, row_at h.lines ((k _ _ g2 (by simp)).trans g2.symm), h.len, h.head, fun i c l hc hl => ?_, h.nodup, ⟨q1, cps, ⟨es, clk, k _ _ e1 (by simp), e2⟩, q4⟩, ⟨t1, tps, ⟨es2, clk2, k _ _ f1 (by simp), f2⟩, fun i c l hc hl => ?_, t4⟩, h.ne⟩
  · obtain ⟨d1, d2, s, r, hd⟩ := h.chans i c l hc hl
    exact ⟨d1, d2, s, r, k _ _ hd (by simp)⟩
  · rcases t3 i c l hc hl with hx | ⟨g, n, cc, x1, x2⟩
    · exact .inl hx
    · obtain ⟨_, cur, k2, _⟩ := row_blk x2
      exact .inr ⟨g, n, cc, x1, row_at x2 ((k _ _ k2 (by simp)).trans k2.symm)⟩
theorem row_keepC {w w' : World} {base g n c : Nat} {xs : List Value} (h : w.ownsRow base 9 1 (.slice (some ⟨g, 0, none⟩) n c) n xs) (k : KeepC w w') : w'.ownsRow base 9 1 (.slice (some ⟨g, 0, none⟩) n c) n xs := by
  obtain ⟨_, cs, k2, _⟩ := row_blk h
  exact row_at h ((k _ _ _ _ k2 (by decide)).trans k2.symm)
theorem make_strings (n : Nat) (hn : n ≤ 1048576) : ∃ cs : Array Value, cs.size = n ∧ ∀ w : World, (Instr.makeSlice 38 (.int .i64 0) (.int .i64 (n : Int))).run Tryd.prog w = .ok (.slice (some ⟨w.heap.size, 0, none⟩) 0 n) (w.alloc (.cells cs 9)) := by
  obtain ⟨i, hi, hz, hs, hb⟩ := info_parts info_string
  refine ⟨madeCells (Value.cells (.string ⟨#[]⟩)) (n * 1), by rw [size_madeCells]; omega, fun w => ?_⟩
  have := run_make (P := Tryd.prog) w 38 9 i _ Tryd.underlying38 hi hz .i64 .i64 0 n (by omega) (by omega) (by rw [hb]; omega) (by omega)
  rw [hs] at this
  exact this
theorem row_cap {E : Nat} {w : World} {base g c : Nat} {cs : Array Value} (hb : base ≤ g) (hg : w.heap[g]? = some (.cells cs E)) (hc : cs.size = c) (hm : c ≤ maxLen) : w.ownsRow base E 1 (.slice (some ⟨g, 0, none⟩) 0 c) 0 [] :=
  ⟨rfl, .inr ⟨g, c, cs, rfl, hb, hg, Nat.zero_le _, hm, by omega, by simp⟩⟩
set_option maxRecDepth 20000 in
set_option maxHeartbeats 4000000 in
theorem doAll_any {w : World} {base : Nat} {S : Sw} {rooms : List Int} {ds : List DeedD} (h : SwOk w base S (openF rooms)) (hw : base ≤ w.heap.size) (hr : S.cs.length = rooms.length) (hd : deedsB rooms ds = true) {lo2 hi2 m c2 : Nat} {A2 : Option Addr} (h2 : Slc w lo2 hi2 3 A2 m c2 (deeds ds)) (hlo : hi2 ≤ base)
    (htab : ∀ w', Below base w w' → Lib.TabIs Tryd.prog w' "internal/strconv.uint64pow10" .u64 Lib.pow10Tab) :
    Calls Tryd.prog 64 #[.pointer (some ⟨S.sp, 0, none⟩), .slice A2 m c2] w fun e w' =>
      ∃ g c, e = .returned (.slice (some ⟨g, 0, none⟩) m c) ∧ w'.ownsRow w.heap.size 9 1 (.slice (some ⟨g, 0, none⟩) m c) m (txts (runF rooms ds).2) ∧ SwOk w' base S (runF rooms ds).1 ∧ Below base w w' := by
  obtain ⟨⟨r1, r6⟩, hrr, d60, hdp⟩ := deedsB_of hd
  have hlm := h2.deedLen
  have hm60 : m ≤ 60 := by omega
  have HDP := Lib.hid hdp
  have HSM := Lib.hid (runF_small hdp)
  have HLM := Lib.hid hlm
  obtain ⟨cs0, hcs0, hmk⟩ := make_strings m (by omega)
  obtain ⟨i0, hi0, hz0, hz1, hz2⟩ := info_parts info_string
  have HI := Lib.hid (And.intro hi0 (And.intro hz0 (And.intro hz1 hz2)))
  have HT := Lib.hid (And.intro htab (And.intro hr r6))
  have HS := Lib.hid h
  have HC0 := Lib.hid hcs0
  have hmw := hmk w
  have hmz : (m : Int) ≤ 60 := by omega
  clear hi0 hz0 hz1 hz2 hdp hd hlm hcs0 hrr h htab hr r1 r6 d60 hmk
  go_enter Tryd.func64, Tryd.ntmps64
  go_wp2
  go_loopw [5, 13] (fun v i wr => ∃ (k g c : Nat), k ≤ m ∧ i = .int .i64 k ∧ v = .slice (some ⟨g, 0, none⟩) k c ∧ wr.ownsRow w.heap.size 9 1 (.slice (some ⟨g, 0, none⟩) k c) k (txts (runF rooms (ds.take k)).2) ∧ SwOk wr base S (runF rooms (ds.take k)).1 ∧ Below base w wr) (fun _ i _ => m - (intOf i).toNat)
  case atStart =>
    refine ⟨0, w.heap.size, m, Nat.zero_le _, rfl, rfl, ?_, ?_, ?_⟩
    · exact row_cap (Nat.le_refl _) (heap_alloc_new _ _) HC0.out (by unfold maxLen; omega)
    · exact HS.out.below (below_al (Below.refl _ _) _)
    · exact (below_al (Below.refl _ _) _).mono hw
  case round =>
    obtain ⟨k, g, c, hk, rfl, rfl, ho, hsw, B⟩ := hrel
    have HO := Lib.hid (And.intro ho (And.intro hsw B))
    by_cases hlt : k < m
    · have h2' := (h2.wide (Nat.zero_le _) hlo).keep (w' := wr) B.size (fun b _ q _ => B.block b q)
      obtain ⟨b, off, d, hA, _, _, h3, hxk, hv0, hv1, hv2⟩ := h2'.deedAt hlt
      subst hA
      have p := HDP.out d (List.mem_of_getElem? hxk)
      have hL : d.a.toNat < (runF rooms (ds.take k)).1.length := by
        have := (runF_len rooms (ds.take k)).1
        have := p.2.1
        have := p.2.2.1
        omega
      obtain ⟨l, hl⟩ : ∃ l, (runF rooms (ds.take k)).1[d.a.toNat]? = some l := ⟨_, List.getElem?_eq_getElem hL⟩
      have hfit := HSM.out k l (List.mem_of_getElem? hl)
      have HD := Lib.hid (And.intro p (And.intro hl (And.intro (show LnFit l from ⟨by omega, by omega, hfit.2.2⟩) hxk)))
      have i0' : (0 : Int) ≤ (k : Int) := by omega
      have i1 : (k : Int) < (m : Int) := by omega
      have zw := B.size
      obtain ⟨hi0, hz0, hz1, hz2⟩ := HI.out
      have HH := Lib.hid hi0
      obtain ⟨D, hD⟩ : ∃ D, D = doneF l d := ⟨_, rfl⟩
      have HDD := Lib.hid hD
      clear ho hsw B h2' h2 p hL hl hfit hxk hi0 hD hmw
      obtain ⟨s, x, y⟩ := d
      have hb1 : ∀ o, Below base w (wr.alloc o) := fun o => HO.out.2.2.trans ((below_al (Below.refl _ _) o).mono (Nat.le_trans hw zw))
      have HB1 := Lib.hid hb1
      have hwz : base ≤ wr.heap.size := Nat.le_trans hw zw
      clear hb1
      go_wp2_with (first
        | (go_at_call 87; refine (do_any (d := ⟨s, x, y⟩) (HO.out.2.1.below (below_al (Below.refl _ _) _)) ?c1 (by rw [HT.out.2.1]; exact HD.out.1) ?c2 HD.out.2.1 HD.out.2.2.1 (fun w' hb => HT.out.1 w' ((HB1.out _).trans hb))).mono ?_; (case c1 => simp; omega); (case c2 => have := HT.out.2.2; have := HT.out.2.1; omega); rintro e w1 ⟨rfl, hs1, hb1, hk1⟩; have HS1 := Lib.hid (And.intro hs1 (And.intro hb1 hk1)); have z1 := hb1.size; simp only [World.size_alloc] at z1; rw [← HDD.out]; clear hs1 hb1 hk1)
        | (at_builtin; refine wpList_append_lies _ rfl (.tmp 17) (.tmp 21) 38 rfl w.heap.size 9 i0 (.string ⟨#[]⟩) 1 16 Tryd.underlying38 HH.out hz0 hz1 hz2 rfl (by decide) (.slice (some ⟨g, 0, none⟩) k c) k (txts (runF rooms (ds.take k)).2) rfl ?c1 ⟨_, 0, none⟩ 1 1 [.string ⟨D.2.toArray⟩] rfl rfl ?c3 ?c4 (by decide) ?c5 ?c6 ?c2 _ rfl ?_; (case c3 => exact cell_one_new _ _ _); (case c4 => simp [Value.oneCell']); (case c5 => unfold maxLen; omega); (case c6 => omega); (case c1 => exact row_below' (row_keepC (row_below' HO.out.1 (below_al (Below.refl _ _) _)) HS1.out.2.2) (below_al (Below.refl _ _) _)); (case c2 => simp; omega); intro g2 c2n w2 hown2 hgr2 hat2 hlt2; have HO2 := Lib.hid hown2; have HG2 := Lib.hid hgr2; have HAT := Lib.hid hat2; clear hown2 hgr2 hat2))
      go_roundw
      case rel =>
        have hst := runF_take (rooms := rooms) HD.out.2.2.2
        have hge : (runF rooms (ds.take k)).1.getD x.toNat ⟨0, [], false, []⟩ = l := by rw [List.getD_eq_getElem?_getD, show (runF rooms (ds.take k)).1[x.toNat]? = some l from HD.out.2.1]; rfl
        have hst2 : runF rooms (ds.take (k + 1)) = ((runF rooms (ds.take k)).1.set x.toNat D.1, (runF rooms (ds.take k)).2 ++ [D.2]) := by rw [hst]; unfold stepF; rw [hge, ← HDD.out]
        refine ⟨k + 1, g2, c2n, by omega, by go_num, rfl, ?_, ?_, ?_⟩
        · rw [hst2]; simp only; rw [txts_snoc]; exact HO2.out
        · rw [hst2]
          have hs1 := HS1.out.1
          rw [← HDD.out] at hs1
          refine (hs1.below (below_al (Below.refl _ _) (.cells #[.string ⟨D.2.toArray⟩] 9))).kept fun b o hb hne => ?_
          refine (HG2.out.block b (blk_lt hb) fun e => ?_).trans hb
          have e : b = g := by simpa [Value.ownBlock] using e
          subst e
          obtain ⟨_, cs, k2, _⟩ := row_blk (row_below' (row_keepC (row_below' HO.out.1 (below_al (Below.refl _ _) _)) HS1.out.2.2) (below_al (Below.refl _ _) (.cells #[.string ⟨D.2.toArray⟩] 9)))
          rw [hb] at k2; injection k2 with k2; exact hne _ _ k2
        · refine ((HB1.out _).trans HS1.out.2.1).trans ?_
          have hgr := HG2.out
          obtain ⟨hg, _⟩ := row_blk HO.out.1
          exact ⟨hgr.os, hgr.tape, hgr.output, by have := hgr.size; rw [World.size_alloc] at this; omega, fun i hi => (hgr.block i (by rw [World.size_alloc]; omega) (fun e => by simp [Value.ownBlock] at e; omega)).trans (Below.heap_alloc _ _ _ (by omega))⟩
      case measure => simp [intOf]; omega
    · have e : k = m := by omega
      subst e
      go_wp2
      go_ret
      have hs := HO.out
      rw [List.take_of_length_le (Nat.le_of_eq HLM.out)] at hs
      exact ⟨g, c, rfl, hs.1, hs.2.1, hs.2.2⟩
end Go.Proofs.YtojnnemodikpeaaDoor
