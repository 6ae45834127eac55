/-
  Tables of choice: TableValid, of the program and of the reference; choiceValid, l5Valid.
  choiceValid, l5Valid.
-/
import Derived.Test.YtojnnemodikpeaaDoorValid
namespace Go.Proofs.YtojnnemodikpeaaDoor
open Go.RowKit
set_option linter.unusedVariables false
def entB (lines : Int) (d : DeedD) : Bool := (inB lines 1 6 && deedB lines d) && (d.act.toList == putA || d.act.toList == takeA)
def tableB (ts : List DeedD) (lines : Int) : Bool := ts.all (entB lines) && inB lines 1 6 && inB ts.length 1 8
def choiceB (rooms : List Int) (ds ts : List DeedD) : Bool := deedsB rooms ds && tableB ts rooms.length
theorem ent_false {lines : Int} {d : DeedD} (h : (inB lines 1 6 && deedB lines d) = false) : entB lines d = false := by unfold entB; rw [h]; rfl
theorem ent_put {lines : Int} {d : DeedD} (h : (inB lines 1 6 && deedB lines d) = true) (h2 : (d.act.toList == putA) = true) : entB lines d = true := by unfold entB; rw [h, h2]; rfl
theorem ent_take {lines : Int} {d : DeedD} (h : (inB lines 1 6 && deedB lines d) = true) (h2 : (d.act.toList == takeA) = true) : entB lines d = true := by unfold entB; rw [h, h2]; simp
theorem ent_not {lines : Int} {d : DeedD} (h2 : (d.act.toList == putA) = false) (h3 : (d.act.toList == takeA) = false) : entB lines d = false := by unfold entB; rw [h2, h3]; simp
theorem table_not {lines : Int} {ts : List DeedD} (h : ts.all (entB lines) = false) : tableB ts lines = false := by unfold tableB; rw [h]; rfl
theorem table_all {lines : Int} {ts : List DeedD} (h : ts.all (entB lines) = true) : tableB ts lines = (inB lines 1 6 && inB ts.length 1 8) := by unfold tableB; rw [h]; rfl
theorem spec_DeedValid (d : DeedD) (lines : Int) (w : World) :
    Calls Tryd.prog 80 #[.agg #[.string d.act, .int .i64 d.a, .int .i64 d.b], .int .i64 lines] w fun e w' => e = .returned (.bool (inB lines 1 6 && deedB lines d)) ∧ Below w.heap.size w w' := by
  obtain ⟨t, ht⟩ : ∃ t, t = inB lines 1 6 := ⟨_, rfl⟩
  have HT := Lib.hid ht
  rw [← ht]
  clear ht
  obtain ⟨s, x, y⟩ := d
  cases t
  · go_enter Tryd.func80, Tryd.ntmps80
    go_wp2_with (first | (go_at_call 59; refine (l1In_any _ _ _ _).mono ?_; rintro e w' ⟨rfl, rfl⟩; rw [← HT.out]) | (go_at_call 82; refine (spec_l1Deed ⟨s, x, y⟩ _ _).mono ?_; rintro e w1 ⟨rfl, b1⟩))
    go_ret
    exact ⟨rfl, below_al (Below.refl _ _) _⟩
  · go_enter Tryd.func80, Tryd.ntmps80
    go_wp2_with (first | (go_at_call 59; refine (l1In_any _ _ _ _).mono ?_; rintro e w' ⟨rfl, rfl⟩; rw [← HT.out]) | (go_at_call 82; refine (spec_l1Deed ⟨s, x, y⟩ _ _).mono ?_; rintro e w1 ⟨rfl, b1⟩))
    go_ret
    exact ⟨rfl, below_step (below_al (Below.refl _ _) _) b1⟩
set_option maxHeartbeats 2000000 in
theorem spec_TableValid (lo hi n c : Nat) (A : Option Addr) (ts : List DeedD) (lines : Int) (w : World) (h : Slc w lo hi 3 A n c (deeds ts)) (hn : n ≤ 1048576) :
    Calls Tryd.prog 55 #[.slice A n c, .int .i64 lines] w fun e w' => e = .returned (.bool (tableB ts lines)) ∧ Below w.heap.size w w' := by
  have hl := Lib.hid h.deedLen
  go_enter Tryd.func55, Tryd.ntmps55
  go_wp2
  go_loopw [5] (fun i wr => ∃ k : Nat, k ≤ n ∧ i = .int .i64 k ∧ Below w.heap.size w wr ∧ ∀ j, j < k → ∀ b, ts[j]? = some b → entB lines b = true) (fun i _ => n - (intOf i).toNat)
  case atStart => exact ⟨0, Nat.zero_le _, rfl, Below.refl _ _, fun j hj => absurd hj (by omega)⟩
  case round =>
    obtain ⟨k, hk, rfl, B, hcs⟩ := hrel
    have HC := Lib.hid hcs
    clear hcs
    by_cases hlt : k < n
    · obtain ⟨b, off, d, hA, _, _, h3, hxk, hv0, hv1, hv2⟩ := (h.below B).deedAt hlt
      subst hA
      have HX := Lib.hid hxk
      have i0' : (0 : Int) ≤ (k : Int) := by omega
      have i1 : (k : Int) < (n : Int) := by omega
      clear hxk h
      obtain ⟨t, ht⟩ : ∃ t, t = (inB lines 1 6 && deedB lines d) := ⟨_, rfl⟩
      have HT := Lib.hid ht
      clear ht
      cases t
      · go_wp2_with (go_at_call 80; refine (spec_DeedValid d lines _).mono ?_; rintro e w1 ⟨rfl, b1⟩; rw [← HT.out])
        go_ret
        exact ⟨ret_bool (table_not (allF_not HX.out (ent_false HT.out.symm))).symm, below_step B b1⟩
      · by_cases h1 : (d.act.toList == putA) = true
        · have H1 := Lib.hid h1
          have h1' : (d.act.toList == [112, 117, 116]) = true := h1
          clear h1
          go_wp2_with (go_at_call 80; refine (spec_DeedValid d lines _).mono ?_; rintro e w1 ⟨rfl, b1⟩; rw [← HT.out]; have hv0 := (World.cell?_of_block (b1.block _ h3)).trans hv0)
          go_roundw
          case rel => exact ⟨k + 1, by omega, by go_num, below_step B b1, allF_snoc HC.out HX.out (ent_put HT.out.symm H1.out)⟩
          case measure => simp [intOf]; omega
        · have h1' : (d.act.toList == [112, 117, 116]) = false := by simpa [putA] using h1
          by_cases h2 : (d.act.toList == takeA) = true
          · have H2 := Lib.hid h2
            have h2' : (d.act.toList == [116, 97, 107, 101]) = true := h2
            clear h1 h2
            go_wp2_with (go_at_call 80; refine (spec_DeedValid d lines _).mono ?_; rintro e w1 ⟨rfl, b1⟩; rw [← HT.out]; have hv0 := (World.cell?_of_block (b1.block _ h3)).trans hv0)
            go_roundw
            case rel => exact ⟨k + 1, by omega, by go_num, below_step B b1, allF_snoc HC.out HX.out (ent_take HT.out.symm H2.out)⟩
            case measure => simp [intOf]; omega
          · have h2' : (d.act.toList == [116, 97, 107, 101]) = false := by simpa [takeA] using h2
            have H12 := Lib.hid (And.intro h1' h2')
            clear h1 h2
            go_wp2_with (go_at_call 80; refine (spec_DeedValid d lines _).mono ?_; rintro e w1 ⟨rfl, b1⟩; rw [← HT.out]; have hv0 := (World.cell?_of_block (b1.block _ h3)).trans hv0)
            go_ret
            exact ⟨ret_bool (table_not (allF_not HX.out (ent_not H12.out.1 H12.out.2))).symm, below_step B b1⟩
    · have e : k = n := by omega
      subst e
      have HA := Lib.hid (allF_of (p := entB lines) HC.out (by rw [hl.out]; exact Nat.le_refl _))
      clear h
      obtain ⟨t, ht⟩ : ∃ t, t = inB lines 1 6 := ⟨_, rfl⟩
      have HT := Lib.hid ht
      clear ht
      cases t
      · go_wp2_with (go_at_call 59; refine (l1In_any lines 1 6 _).mono ?_; rintro e w' ⟨rfl, rfl⟩; rw [← HT.out])
        go_ret
        exact ⟨ret_bool (by rw [table_all HA.out, ← HT.out]; rfl), B⟩
      · go_wp2_with (go_at_call 59; refine (l1In_any _ _ _ _).mono ?_; rintro e w' ⟨rfl, rfl⟩; try rw [← HT.out])
        go_ret
        have hx : tableB ts lines = inB (k : Int) 1 8 := by
          rw [table_all HA.out, ← HT.out, Bool.true_and, hl.out]
        exact ⟨ret_bool hx.symm, B⟩
set_option maxHeartbeats 2000000 in
theorem impl_TableValid (lo hi n c : Nat) (A : Option Addr) (ts : List DeedD) (lines : Int) (w : World) (h : Slc w lo hi 3 A n c (deeds ts)) (hn : n ≤ 1048576) :
    Calls Tryd.prog 54 #[.slice A n c, .int .i64 lines] w fun e w' => e = .returned (.bool (tableB ts lines)) ∧ Below w.heap.size w w' := by
  have hl := Lib.hid h.deedLen
  by_cases hin : 1 ≤ lines ∧ lines ≤ 6 ∧ 1 ≤ n ∧ n ≤ 8
  · obtain ⟨g1, g2, g3, g4⟩ := hin
    have HG := Lib.hid (And.intro g1 (And.intro g2 (And.intro g3 g4)))
    go_enter Tryd.func54, Tryd.ntmps54
    go_wp2
    go_loopw [25] (fun i wr => ∃ k : Nat, k ≤ n ∧ i = .int .i64 k ∧ Below w.heap.size w wr ∧ ∀ j, j < k → ∀ b, ts[j]? = some b → entB lines b = true) (fun i _ => n - (intOf i).toNat)
    case atStart => exact ⟨0, Nat.zero_le _, rfl, Below.refl _ _, fun j hj => absurd hj (by omega)⟩
    case round =>
      obtain ⟨k, hk, rfl, B, hcs⟩ := hrel
      have HC := Lib.hid hcs
      clear hcs
      by_cases hlt : k < n
      · obtain ⟨b, off, d, hA, _, _, h3, hxk, hv0, hv1, hv2⟩ := (h.below B).deedAt hlt
        subst hA
        have HX := Lib.hid hxk
        have i0' : (0 : Int) ≤ (k : Int) := by omega
        have i1 : (k : Int) < (n : Int) := by omega
        clear hxk h
        obtain ⟨t, ht⟩ : ∃ t, t = (inB lines 1 6 && deedB lines d) := ⟨_, rfl⟩
        have HT := Lib.hid ht
        clear ht
        obtain ⟨s, x, y⟩ := d
        by_cases h1 : (s.toList == putA) = true
        · have H1 := Lib.hid h1
          have h1' : (s.toList == [112, 117, 116]) = true := h1
          clear h1
          cases t
          · go_wp2_with (go_at_call 79; refine (impl_DeedValid ⟨s, x, y⟩ lines _).mono ?_; rintro e w1 ⟨rfl, b1⟩; rw [← HT.out])
            go_ret
            exact ⟨ret_bool (table_not (allF_not HX.out (ent_false HT.out.symm))).symm, below_step (below_al B _) b1⟩
          · go_wp2_with (go_at_call 79; refine (impl_DeedValid ⟨s, x, y⟩ lines _).mono ?_; rintro e w1 ⟨rfl, b1⟩; rw [← HT.out])
            go_roundw
            case rel => exact ⟨k + 1, by omega, by go_num, below_step (below_al B _) b1, allF_snoc HC.out HX.out (ent_put HT.out.symm H1.out)⟩
            case measure => simp [intOf]; omega
        · have h1' : (s.toList == [112, 117, 116]) = false := by simpa [putA] using h1
          by_cases h2 : (s.toList == takeA) = true
          · have H2 := Lib.hid h2
            have h2' : (s.toList == [116, 97, 107, 101]) = true := h2
            clear h1 h2
            cases t
            · go_wp2_with (go_at_call 79; refine (impl_DeedValid ⟨s, x, y⟩ lines _).mono ?_; rintro e w1 ⟨rfl, b1⟩; rw [← HT.out])
              go_ret
              exact ⟨ret_bool (table_not (allF_not HX.out (ent_false HT.out.symm))).symm, below_step (below_al B _) b1⟩
            · go_wp2_with (go_at_call 79; refine (impl_DeedValid ⟨s, x, y⟩ lines _).mono ?_; rintro e w1 ⟨rfl, b1⟩; rw [← HT.out])
              go_roundw
              case rel => exact ⟨k + 1, by omega, by go_num, below_step (below_al B _) b1, allF_snoc HC.out HX.out (ent_take HT.out.symm H2.out)⟩
              case measure => simp [intOf]; omega
          · have h2' : (s.toList == [116, 97, 107, 101]) = false := by simpa [takeA] using h2
            have H12 := Lib.hid (And.intro h1' h2')
            clear h1 h2
            go_wp2
            go_ret
            exact ⟨ret_bool (table_not (allF_not HX.out (ent_not H12.out.1 H12.out.2))).symm, below_al B _⟩
      · have e : k = n := by omega
        subst e
        have HA := Lib.hid (allF_of (p := entB lines) HC.out (by rw [hl.out]; exact Nat.le_refl _))
        clear h
        go_wp2
        go_ret
        refine ⟨ret_bool ?_, B⟩
        rw [table_all HA.out, hl.out]
        have := HG.out
        simp [inB]; omega
  · have hF : tableB ts lines = false := by
      unfold tableB
      rw [hl.out]
      have : (inB lines 1 6 && inB (n : Int) 1 8) = false := by
        rw [Bool.eq_false_iff]; intro hh; apply hin
        simp [inB] at hh; omega
      rw [Bool.and_assoc, this, Bool.and_false]
    rw [hF]
    clear hF h
    have hx : lines < 1 ∨ (1 ≤ lines ∧ 6 < lines) ∨ (1 ≤ lines ∧ lines ≤ 6 ∧ n < 1) ∨ (1 ≤ lines ∧ lines ≤ 6 ∧ 1 ≤ n ∧ 8 < n) := by omega
    clear hin
    rcases hx with hx | ⟨hx, hy⟩ | ⟨hx, hy, hz⟩ | ⟨hx, hy, hz, hq⟩
    all_goals
      go_enter Tryd.func54, Tryd.ntmps54
      go_wp2
      go_ret
      exact ⟨rfl, Below.refl _ _⟩
end Go.Proofs.YtojnnemodikpeaaDoor
namespace Go.Proofs.YtojnnemodikpeaaDoor
open Go.RowKit
set_option linter.unusedVariables false
set_option maxHeartbeats 1000000 in
theorem spec_l5Valid (lo hi n c lo2 hi2 m c2 lo3 hi3 q c3 : Nat) (A A2 A3 : Option Addr) (rooms : List Int) (ds ts : List DeedD) (w : World) (h : Slc w lo hi 1 A n c (ints rooms)) (h2 : Slc w lo2 hi2 3 A2 m c2 (deeds ds)) (h3 : Slc w lo3 hi3 3 A3 q c3 (deeds ts)) (hn : n ≤ 1048576) (hm : m ≤ 1048576) (hq : q ≤ 1048576) :
    Calls Tryd.prog 74 #[.slice A n c, .slice A2 m c2, .slice A3 q c3] w fun e w' => e = .returned (.bool (choiceB rooms ds ts)) ∧ Below w.heap.size w w' := by
  have hl := Lib.hid h.length
  obtain ⟨t, ht⟩ : ∃ t, t = deedsB rooms ds := ⟨_, rfl⟩
  have HT := Lib.hid ht
  clear ht
  cases t
  · go_enter Tryd.func74, Tryd.ntmps74
    go_wp2_with (go_at_call 58; refine (spec_l1Valid _ _ _ _ _ _ _ _ _ _ rooms ds _ h h2 hn hm).mono ?_; rintro e w1 ⟨rfl, b1⟩; rw [← HT.out])
    go_ret
    exact ⟨ret_bool (by unfold choiceB; rw [← HT.out]; rfl), b1⟩
  · go_enter Tryd.func74, Tryd.ntmps74
    go_wp2_with (first | (go_at_call 58; refine (spec_l1Valid _ _ _ _ _ _ _ _ _ _ rooms ds _ h h2 hn hm).mono ?_; rintro e w1 ⟨rfl, b1⟩; rw [← HT.out]) | (go_at_call 55; refine (spec_TableValid _ _ _ _ _ ts n _ (h3.below b1) hq).mono ?_; rintro e w2 ⟨rfl, b2⟩))
    go_ret
    exact ⟨ret_bool (by unfold choiceB; rw [← HT.out, hl.out]; rfl), below_step b1 b2⟩
set_option maxHeartbeats 1000000 in
theorem impl_choiceValid (lo hi n c lo2 hi2 m c2 lo3 hi3 q c3 : Nat) (A A2 A3 : Option Addr) (rooms : List Int) (ds ts : List DeedD) (w : World) (h : Slc w lo hi 1 A n c (ints rooms)) (h2 : Slc w lo2 hi2 3 A2 m c2 (deeds ds)) (h3 : Slc w lo3 hi3 3 A3 q c3 (deeds ts)) (hn : n ≤ 1048576) (hm : m ≤ 1048576) (hq : q ≤ 1048576) :
    Calls Tryd.prog 76 #[.slice A n c, .slice A2 m c2, .slice A3 q c3] w fun e w' => e = .returned (.bool (choiceB rooms ds ts)) ∧ Below w.heap.size w w' := by
  have hl := Lib.hid h.length
  obtain ⟨t, ht⟩ : ∃ t, t = deedsB rooms ds := ⟨_, rfl⟩
  have HT := Lib.hid ht
  clear ht
  cases t
  · go_enter Tryd.func76, Tryd.ntmps76
    go_wp2_with (go_at_call 62; refine (impl_deedsValid _ _ _ _ _ _ _ _ _ _ rooms ds _ h h2 hn hm).mono ?_; rintro e w1 ⟨rfl, b1⟩; rw [← HT.out])
    go_ret
    exact ⟨ret_bool (by unfold choiceB; rw [← HT.out]; rfl), b1⟩
  · go_enter Tryd.func76, Tryd.ntmps76
    go_wp2_with (first | (go_at_call 62; refine (impl_deedsValid _ _ _ _ _ _ _ _ _ _ rooms ds _ h h2 hn hm).mono ?_; rintro e w1 ⟨rfl, b1⟩; rw [← HT.out]) | (go_at_call 54; refine (impl_TableValid _ _ _ _ _ ts n _ (h3.below b1) hq).mono ?_; rintro e w2 ⟨rfl, b2⟩))
    go_ret
    exact ⟨ret_bool (by unfold choiceB; rw [← HT.out, hl.out]; rfl), below_step b1 b2⟩
end Go.Proofs.YtojnnemodikpeaaDoor
