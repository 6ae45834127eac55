/-
  The switchboard: do, its cases at a line.
-/
import Derived.Test.YtojnnemodikpeaaDoorSwDo
namespace Go.Proofs.YtojnnemodikpeaaDoor
open Go.RowKit Go.Conc
set_option linter.unusedVariables false
theorem str_ne {s l : List UInt8} (h : ¬ s = l) : (s == l) = false := by rw [beq_eq_false_iff_ne]; exact h
theorem str_is {s l : List UInt8} (h : s = l) : (s == l) = true := by rw [beq_iff_eq]; exact h
set_option maxRecDepth 20000 in
set_option maxHeartbeats 2000000 in
theorem do_ended {w : World} {base : Nat} {S : Sw} {ls : List Ln} (h : SwOk w base S ls) (hw : base ≤ w.heap.size) {d : DeedD} {i c : Nat} {l : Ln} (hc : S.cs[i]? = some c) (hl : ls[i + 1]? = some l) (h0 : d.a = (i : Int) + 1) (hk : ¬ d.act.toList = lookA) (ht : ¬ d.act.toList = takeA) (he : l.ended = true) :
    Calls Tryd.prog 87 #[.pointer (some ⟨S.sp, 0, none⟩), .agg #[.string d.act, .int .i64 d.a, .int .i64 d.b]] w fun e w' => e = .returned (.string ⟨tEnded.toArray⟩) ∧ Below w.heap.size w w' := by
  obtain ⟨s, x, y⟩ := d
  have hx : x = (i : Int) + 1 := h0
  subst hx
  have h1 := str_ne hk
  have h2 := str_ne ht
  unfold lookA at h1
  unfold takeA at h2
  have ec := blk_cell h.st
  have zs := blk_lt h.st
  have eg := row_cells (j := i + 1) (v := .chan (some c)) h.lines (by simp [Sw.lines, hc])
  have zg := blk_lt (row_blk h.lines).2.choose_spec.1
  have hic := (List.getElem?_eq_some_iff.1 hc).1
  have i0 : (0 : Int) ≤ (i : Int) + 1 := by omega
  have i1 : (i : Int) + 1 < (S.cs.length : Int) + 1 := by omega
  have hq := fun W => eql_chan (some c) none W
  have HH := Lib.hid (And.intro h (And.intro hc (And.intro hl he)))
  clear h hl h0 hk ht hc he
  go_enter Tryd.func87, Tryd.ntmps87
  go_upto_region 1 with fail
  go_region
  go_wp2_with (go_at_call 70; refine (isEnded_any (HH.out.1.below (below_drew (below_al (Below.refl _ _) _))) HH.out.2.1 HH.out.2.2.1).mono ?_; rintro e w1 ⟨rfl, rfl⟩; rw [HH.out.2.2.2])
  go_ret
  exact ⟨rfl, below_drew (below_al (Below.refl _ _) _)⟩
set_option maxRecDepth 20000 in
set_option maxHeartbeats 2000000 in
theorem do_take_none {w : World} {base : Nat} {S : Sw} {ls : List Ln} (h : SwOk w base S ls) (hw : base ≤ w.heap.size) {d : DeedD} {i c : Nat} {l : Ln} (hc : S.cs[i]? = some c) (hl : ls[i + 1]? = some l) (h0 : d.a = (i : Int) + 1) (ht : d.act.toList = takeA) (hh : l.held = []) :
    Calls Tryd.prog 87 #[.pointer (some ⟨S.sp, 0, none⟩), .agg #[.string d.act, .int .i64 d.a, .int .i64 d.b]] w fun e w' => e = .returned (.string ⟨(takeF l).2.toArray⟩) ∧ Below w.heap.size w w' := by
  obtain ⟨s, x, y⟩ := d
  have hx : x = (i : Int) + 1 := h0
  subst hx
  have h2 := str_is ht
  have h1 : (s.toList == lookA) = false := by rw [show s.toList = takeA from ht]; decide
  unfold lookA at h1
  unfold takeA at h2
  have ec := blk_cell h.st
  have zs := blk_lt h.st
  have eg := row_cells (j := i + 1) (v := .chan (some c)) h.lines (by simp [Sw.lines, hc])
  have zg := blk_lt (row_blk h.lines).2.choose_spec.1
  have hic := (List.getElem?_eq_some_iff.1 hc).1
  have i0 : (0 : Int) ≤ (i : Int) + 1 := by omega
  have i1 : (i : Int) + 1 < (S.cs.length : Int) + 1 := by omega
  have hq := fun W => eql_chan (some c) none W
  have HH := Lib.hid (And.intro h (And.intro hc (And.intro hl hh)))
  clear h hl h0 ht hc hh
  go_enter Tryd.func87, Tryd.ntmps87
  go_upto_region 1 with fail
  go_region
  go_wp2_with (go_at_call 99; refine (take_none (HH.out.1.below (below_drew (below_al (Below.refl _ _) _))) HH.out.2.1 HH.out.2.2.1 HH.out.2.2.2).mono ?_; rintro e w1 ⟨rfl, rfl⟩)
  go_ret
  exact ⟨rfl, below_drew (below_al (Below.refl _ _) _)⟩
set_option maxRecDepth 20000 in
set_option maxHeartbeats 2000000 in
theorem do_take_some {w : World} {base : Nat} {S : Sw} {ls : List Ln} (h : SwOk w base S ls) (hw : base ≤ w.heap.size) {d : DeedD} {i c : Nat} {l : Ln} (hc : S.cs[i]? = some c) (hl : ls[i + 1]? = some l) (h0 : d.a = (i : Int) + 1) {x : Int} {xs : List Int} (ht : d.act.toList = takeA) (hh : l.held = x :: xs) (hx0 : 0 ≤ x) (hx1 : x ≤ 1000) (hsm : l.taken.length ≤ 1000) (htab : ∀ w', Below base w w' → Lib.TabIs Tryd.prog w' "internal/strconv.uint64pow10" .u64 Lib.pow10Tab) :
    Calls Tryd.prog 87 #[.pointer (some ⟨S.sp, 0, none⟩), .agg #[.string d.act, .int .i64 d.a, .int .i64 d.b]] w fun e w' => e = .returned (.string ⟨(takeF l).2.toArray⟩) ∧ SwOk w' base S (ls.set (i + 1) (takeF l).1) ∧ Below base w w' ∧ KeepC w w' := by
  have BW : ∀ o, Below base w ((w.alloc o).drew) := fun o => below_drew ((below_al (Below.refl _ _) o).mono hw)
  have HT := Lib.hid (And.intro hx0 (And.intro hx1 (And.intro hsm (And.intro htab BW))))
  obtain ⟨s, z, y⟩ := d
  have hx : z = (i : Int) + 1 := h0
  subst hx
  have h2 := str_is ht
  have h1 : (s.toList == lookA) = false := by rw [show s.toList = takeA from ht]; decide
  unfold lookA at h1
  unfold takeA at h2
  have ec := blk_cell h.st
  have zs := blk_lt h.st
  have eg := row_cells (j := i + 1) (v := .chan (some c)) h.lines (by simp [Sw.lines, hc])
  have zg := blk_lt (row_blk h.lines).2.choose_spec.1
  have hic := (List.getElem?_eq_some_iff.1 hc).1
  have i0 : (0 : Int) ≤ (i : Int) + 1 := by omega
  have i1 : (i : Int) + 1 < (S.cs.length : Int) + 1 := by omega
  have hq := fun W => eql_chan (some c) none W
  have HH := Lib.hid (And.intro h (And.intro hc (And.intro hl hh)))
  clear h hl h0 ht hc hh hx0 hx1 hsm htab BW
  go_enter Tryd.func87, Tryd.ntmps87
  go_upto_region 1 with fail
  go_region
  go_wp2_with (go_at_call 99; refine (take_some (HH.out.1.below (below_drew (below_al (Below.refl _ _) _))) HH.out.2.1 HH.out.2.2.1 HH.out.2.2.2 HT.out.1 HT.out.2.1 HT.out.2.2.1 (fun w' hb => HT.out.2.2.2.1 w' ((HT.out.2.2.2.2 _).trans hb))).mono ?_; rintro e w1 ⟨rfl, hs1, hb1, hk1⟩)
  go_ret
  exact ⟨rfl, hs1, (HT.out.2.2.2.2 _).trans hb1, (KeepC.below (below_drew (below_al (Below.refl _ _) _))).trans hk1⟩
set_option maxRecDepth 20000 in
set_option maxHeartbeats 2000000 in
theorem do_end {w : World} {base : Nat} {S : Sw} {ls : List Ln} (h : SwOk w base S ls) (hw : base ≤ w.heap.size) {d : DeedD} {i c : Nat} {l : Ln} (hc : S.cs[i]? = some c) (hl : ls[i + 1]? = some l) (h0 : d.a = (i : Int) + 1) (ht : d.act.toList = endA) (he : l.ended = false) (hcs : S.cs.length ≤ 6) :
    Calls Tryd.prog 87 #[.pointer (some ⟨S.sp, 0, none⟩), .agg #[.string d.act, .int .i64 d.a, .int .i64 d.b]] w fun e w' => e = .returned (.string ⟨tEnd.toArray⟩) ∧ SwOk w' base S (ls.set (i + 1) { l with ended := true }) ∧ Below base w w' ∧ KeepC w w' := by
  have BW : ∀ o, Below base w ((w.alloc o).drew) := fun o => below_drew ((below_al (Below.refl _ _) o).mono hw)
  have HT := Lib.hid (And.intro hcs BW)
  obtain ⟨s, x, y⟩ := d
  have hx : x = (i : Int) + 1 := h0
  subst hx
  have h2 := str_is ht
  have h1 : (s.toList == lookA) = false := by rw [show s.toList = endA from ht]; decide
  have h3 : (s.toList == takeA) = false := by rw [show s.toList = endA from ht]; decide
  unfold lookA at h1
  unfold takeA at h3
  unfold endA at h2
  have ec := blk_cell h.st
  have zs := blk_lt h.st
  have eg := row_cells (j := i + 1) (v := .chan (some c)) h.lines (by simp [Sw.lines, hc])
  have zg := blk_lt (row_blk h.lines).2.choose_spec.1
  have hic := (List.getElem?_eq_some_iff.1 hc).1
  have i0 : (0 : Int) ≤ (i : Int) + 1 := by omega
  have i1 : (i : Int) + 1 < (S.cs.length : Int) + 1 := by omega
  have hq := fun W => eql_chan (some c) none W
  have HH := Lib.hid (And.intro h (And.intro hc (And.intro hl he)))
  clear h hl h0 ht hc he hcs BW
  go_enter Tryd.func87, Tryd.ntmps87
  go_upto_region 1 with fail
  go_region
  go_wp2_with (first | (go_at_call 70; refine (isEnded_any (HH.out.1.below (below_drew (below_al (Below.refl _ _) _))) HH.out.2.1 HH.out.2.2.1).mono ?_; rintro e w1 ⟨rfl, rfl⟩; rw [HH.out.2.2.2]) | (go_at_call 90; refine (end_any (HH.out.1.below (below_drew (below_al (Below.refl _ _) _))) HH.out.2.1 HH.out.2.2.1 HH.out.2.2.2 HT.out.1).mono ?_; rintro e w1 ⟨rfl, hs1, hb1, hk1⟩))
  go_ret
  exact ⟨rfl, hs1, (HT.out.2 _).trans hb1, (KeepC.below (below_drew (below_al (Below.refl _ _) _))).trans hk1⟩
end Go.Proofs.YtojnnemodikpeaaDoor
