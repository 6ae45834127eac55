/-
  The switchboard: do, a put and a look.
-/
import Derived.Test.YtojnnemodikpeaaDoorSwDo2
namespace Go.Proofs.YtojnnemodikpeaaDoor
open Go.RowKit Go.Conc
set_option linter.unusedVariables false
/-- The switchboard behind a change of one channel's block alone: what is held there is another list. -/
theorem SwOk.held {w : World} {base : Nat} {S : Sw} {ls : List Ln} (h : SwOk w base S ls) {i c : Nat} {l : Ln} (hc : S.cs[i]? = some c) (hl : ls[i + 1]? = some l) {w' : World} {ys : List Int} {s r : Nat}
    (hk : ∀ b, b ≠ c → w'.heap[b]? = w.heap[b]?) (hch : w'.heap[c]? = some (.chan l.room.toNat (ints ys).toArray l.ended s r false)) : SwOk w' base S (ls.set (i + 1) { l with held := ys }) := by
  obtain ⟨b1, b2, s0, r0, hc0⟩ := h.chans i c l hc hl
  obtain ⟨g1, arr, g2, _⟩ := row_blk h.lines
  obtain ⟨c1, cps, ⟨es, clk, hm0, he0⟩, c3⟩ := h.closed
  obtain ⟨t1, tps, ⟨es2, clk2, hm2, he2⟩, t3, t4⟩ := h.taken
  have hi : i + 1 < ls.length := (List.getElem?_eq_some_iff.1 hl).1
  have hn : ∀ {j c' : Nat}, S.cs[j]? = some c' → j ≠ i → c' ≠ c := by
    rintro j c' hj e rfl
    exact e ((List.getElem?_inj (List.getElem?_eq_some_iff.1 hj).1 h.nodup).1 (hj.trans hc.symm))
  refine ⟨?_, h.sb, ?_, by rw [List.length_set]; exact h.len, ?_, ?_, h.nodup, ⟨c1, cps, ChanMap.at ⟨es, clk, hm0, he0⟩ (hk _ (blk_ne hm0 hc0 (by simp))), ?_⟩, ⟨t1, tps, ChanMap.at ⟨es2, clk2, hm2, he2⟩ (hk _ (blk_ne hm2 hc0 (by simp))), ?_, t4⟩, h.ne⟩
  · rw [hk _ (blk_ne h.st hc0 (by simp))]; exact h.st
  · exact row_at h.lines (hk _ (blk_ne g2 hc0 (by simp)))
  · rw [List.getElem?_set_ne (by omega)]; exact h.head
  · intro j c' l' hj hl'
    by_cases e : j = i
    · subst e
      rw [hc] at hj; injection hj with hj; subst hj
      rw [List.getElem?_set_self hi] at hl'
      injection hl' with hl'; subst hl'
      exact ⟨b1, b2, s, r, hch⟩
    · rw [List.getElem?_set_ne (by omega)] at hl'
      obtain ⟨d1, d2, s1, r1, hd⟩ := h.chans j c' l' hj hl'
      exact ⟨d1, d2, s1, r1, by rw [hk _ (hn hj e)]; exact hd⟩
  · intro j c' l' hj hl'
    by_cases e : j = i
    · subst e
      rw [List.getElem?_set_self hi] at hl'
      injection hl' with hl'; subst hl'
      exact c3 j c' l hj hl
    · rw [List.getElem?_set_ne (by omega)] at hl'
      exact c3 j c' l' hj hl'
  · intro j c' l' hj hl'
    have ht : ∀ {x : Ln}, TakenAt w base (lookC c' tps) x.taken → TakenAt w' base (lookC c' tps) x.taken := by
      intro x hx
      rcases hx with hx | ⟨g, n, cc, e1, e2⟩
      · exact .inl hx
      · obtain ⟨_, cur, k2, _⟩ := row_blk e2
        exact .inr ⟨g, n, cc, e1, row_at e2 (hk _ (blk_ne k2 hc0 (by simp)))⟩
    by_cases e : j = i
    · subst e
      rw [List.getElem?_set_self hi] at hl'
      injection hl' with hl'; subst hl'
      exact ht (x := l) (t3 j c' l hj hl)
    · rw [List.getElem?_set_ne (by omega)] at hl'
      exact ht (t3 j c' l' hj hl')
set_option maxRecDepth 20000 in
set_option maxHeartbeats 2000000 in
theorem do_full {w : World} {base : Nat} {S : Sw} {ls : List Ln} (h : SwOk w base S ls) (hw : base ≤ w.heap.size) {d : DeedD} {i c : Nat} {l : Ln} (hc : S.cs[i]? = some c) (hl : ls[i + 1]? = some l) (h0 : d.a = (i : Int) + 1) (ht : d.act.toList = putA) (he : l.ended = false) (hr : l.room ≤ l.held.length) :
    Calls Tryd.prog 87 #[.pointer (some ⟨S.sp, 0, none⟩), .agg #[.string d.act, .int .i64 d.a, .int .i64 d.b]] w fun e w' => e = .returned (.string ⟨tFull.toArray⟩) ∧ Below w.heap.size w w' := by
  obtain ⟨s, x, y⟩ := d
  have hx : x = (i : Int) + 1 := h0
  subst hx
  have h1 : (s.toList == lookA) = false := by rw [show s.toList = putA from ht]; decide
  have h2 : (s.toList == takeA) = false := by rw [show s.toList = putA from ht]; decide
  have h3 : (s.toList == endA) = false := by rw [show s.toList = putA from ht]; decide
  unfold lookA at h1
  unfold takeA at h2
  unfold endA at h3
  have ec := blk_cell h.st
  have zs := blk_lt h.st
  have eg := row_cells (j := i + 1) (v := .chan (some c)) h.lines (by simp [Sw.lines, hc])
  have zg := blk_lt (row_blk h.lines).2.choose_spec.1
  have hic := (List.getElem?_eq_some_iff.1 hc).1
  have i0 : (0 : Int) ≤ (i : Int) + 1 := by omega
  have i1 : (i : Int) + 1 < (S.cs.length : Int) + 1 := by omega
  have hq := fun W => eql_chan (some c) none W
  obtain ⟨b1, b2, s0, r0, hch⟩ := h.chans i c l hc hl
  rw [he] at hch
  have HH := Lib.hid (And.intro h (And.intro hc (And.intro hl (And.intro he (And.intro hch (And.intro b2 hr))))))
  clear h hl h0 ht hc he hch b2 hr
  go_enter Tryd.func87, Tryd.ntmps87
  go_upto_region 1 with fail
  go_region
  go_upto_region 15 with (go_at_call 70; refine (isEnded_any (HH.out.1.below (below_drew (below_al (Below.refl _ _) _))) HH.out.2.1 HH.out.2.2.1).mono ?_; rintro e w1 ⟨rfl, rfl⟩; rw [HH.out.2.2.2.1])
  refine wp_select_send_full (c := c) (u := .int .i64 y) (z' := .int .i64 0) (buf := (ints l.held).toArray) (cap := l.room.toNat) (s := s0) (r := r0) (tm := false) rfl rfl (by simp [go_sem, execOp, scase, Act.eval]) (blk_drew (blk_alloc HH.out.2.2.2.2.1 _)) (by have := HH.out.2.2.2.2.2; simp [ints]; omega) ?_
  go_wp2
  go_ret
  exact ⟨rfl, below_drew (below_al (Below.refl _ _) _)⟩
set_option maxRecDepth 20000 in
set_option maxHeartbeats 2000000 in
theorem do_put {w : World} {base : Nat} {S : Sw} {ls : List Ln} (h : SwOk w base S ls) (hw : base ≤ w.heap.size) {d : DeedD} {i c : Nat} {l : Ln} (hc : S.cs[i]? = some c) (hl : ls[i + 1]? = some l) (h0 : d.a = (i : Int) + 1) (ht : d.act.toList = putA) (he : l.ended = false) (hr : (l.held.length : Int) < l.room) :
    Calls Tryd.prog 87 #[.pointer (some ⟨S.sp, 0, none⟩), .agg #[.string d.act, .int .i64 d.a, .int .i64 d.b]] w fun e w' => e = .returned (.string ⟨tPut.toArray⟩) ∧ SwOk w' base S (ls.set (i + 1) { l with held := l.held ++ [d.b] }) ∧ Below base w w' ∧ KeepC w w' := by
  obtain ⟨s, x, y⟩ := d
  have hx : x = (i : Int) + 1 := h0
  subst hx
  have h1 : (s.toList == lookA) = false := by rw [show s.toList = putA from ht]; decide
  have h2 : (s.toList == takeA) = false := by rw [show s.toList = putA from ht]; decide
  have h3 : (s.toList == endA) = false := by rw [show s.toList = putA from ht]; decide
  unfold lookA at h1
  unfold takeA at h2
  unfold endA at h3
  have ec := blk_cell h.st
  have zs := blk_lt h.st
  have eg := row_cells (j := i + 1) (v := .chan (some c)) h.lines (by simp [Sw.lines, hc])
  have zg := blk_lt (row_blk h.lines).2.choose_spec.1
  have hic := (List.getElem?_eq_some_iff.1 hc).1
  have i0 : (0 : Int) ≤ (i : Int) + 1 := by omega
  have i1 : (i : Int) + 1 < (S.cs.length : Int) + 1 := by omega
  have hq := fun W => eql_chan (some c) none W
  obtain ⟨b1, b2, s0, r0, hch⟩ := h.chans i c l hc hl
  have BW : ∀ o, Below base w ((w.alloc o).drew) := fun o => below_drew ((below_al (Below.refl _ _) o).mono hw)
  have HH := Lib.hid (And.intro h (And.intro hc (And.intro hl (And.intro he (And.intro hch (And.intro b2 (And.intro hr (And.intro BW b1))))))))
  clear h hl h0 ht hc he hch b2 hr BW b1
  go_enter Tryd.func87, Tryd.ntmps87
  go_upto_region 1 with fail
  go_region
  go_upto_region 15 with (go_at_call 70; refine (isEnded_any (HH.out.1.below (below_drew (below_al (Below.refl _ _) _))) HH.out.2.1 HH.out.2.2.1).mono ?_; rintro e w1 ⟨rfl, rfl⟩; rw [HH.out.2.2.2.1])
  refine wp_select_send_room (c := c) (u := .int .i64 y) (z' := .int .i64 0) (buf := (ints l.held).toArray) (cap := l.room.toNat) (s := s0) (r := r0) (tm := false) rfl rfl (by simp [go_sem, execOp, scase, Act.eval]) (by have := HH.out.2.2.2.2.1; rw [HH.out.2.2.2.1] at this; exact blk_drew (blk_alloc this _)) (by have := HH.out.2.2.2.2.2.1; have := HH.out.2.2.2.2.2.2.1; simp [ints]; omega) ?_
  go_wp2
  go_ret
  obtain ⟨h, hc, hl, he, hch, b2, hr, BW, b1⟩ := HH.out
  refine ⟨rfl, ?_, below_setChan (BW _) b1 _ _ _ _ _ _, (KeepC.below (below_drew (below_al (Below.refl _ _) (.cells #[.string s, .int .i64 ((i : Int) + 1), .int .i64 y] 46)))).trans (KeepC.set (blk_drew (blk_alloc hch _)) (by simp))⟩
  have hz := blk_lt hch
  refine (h.below (below_drew (below_al (Below.refl _ _) (.cells #[.string s, .int .i64 ((i : Int) + 1), .int .i64 y] 46)))).held (s := s0 + 1) (r := r0) hc hl (fun b e => ?_) ?_
  · simp only [World.setChan]; rw [Array.getElem?_setIfInBounds_ne (fun e' => e e'.symm)]
  · rw [he, heap_setChan _ _ _ _ _ _ _ _ (by simp; omega)]
    simp [ints]
end Go.Proofs.YtojnnemodikpeaaDoor
