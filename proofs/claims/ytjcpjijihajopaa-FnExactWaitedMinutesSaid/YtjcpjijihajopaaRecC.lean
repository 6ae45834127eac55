/-
  Whether a clock can be so late after records.
-/
import Derived.Test.YtjcpjijihajopaaRecV
set_option linter.unusedSectionVars false
set_option linter.unusedSimpArgs false
set_option linter.unusedVariables false
namespace Go.Proofs.Ytjcpjijihajopaa
open Go.RowKit
set_option linter.unusedVariables false
theorem clockB_valid {ds : List RecD} {k : Int} (h : validR ds = false) : clockB ds k = false := by simp only [clockB, h, Bool.false_and]
theorem clockB_late {ds : List RecD} {k : Int} (h : ds.all (lateB k) = false) : clockB ds k = false := by simp only [clockB, h, Bool.and_false]
theorem clockB_range {ds : List RecD} {k : Int} (h : ¬ (0 ≤ k ∧ k ≤ 3600)) : clockB ds k = false := by simp only [clockB, h, decide_false, Bool.and_false, Bool.false_and]
theorem clockB_all {ds : List RecD} {k : Int} (h : ds.all (lateB k) = true) : clockB ds k = (validR ds && decide (0 ≤ k ∧ k ≤ 3600)) := by simp only [clockB, h, Bool.and_true]
section
variable {w W W' : World} {a0 a1 a2 : Addr} {v0 v1 v2 : Value}
theorem held3_below (hb : Below W.heap.size W W') (h : W.cell? a0 = some v0 ∧ W.cell? a1 = some v1 ∧ W.cell? a2 = some v2 ∧ Below w.heap.size w W) : W'.cell? a0 = some v0 ∧ W'.cell? a1 = some v1 ∧ W'.cell? a2 = some v2 ∧ Below w.heap.size w W' := by
  have e : ∀ {a : Addr} {v : Value}, W.cell? a = some v → W'.cell? a = some v := fun {a v} hv => (World.cell?_of_block (hb.block _ (World.block_lt_of_cell? W _ hv))).trans hv
  exact ⟨e h.1, e h.2.1, e h.2.2.1, below_step h.2.2.2 hb⟩
theorem held3_drew (h : W.cell? a0 = some v0 ∧ W.cell? a1 = some v1 ∧ W.cell? a2 = some v2 ∧ Below w.heap.size w W) : W.drew.cell? a0 = some v0 ∧ W.drew.cell? a1 = some v1 ∧ W.drew.cell? a2 = some v2 ∧ Below w.heap.size w W.drew :=
  ⟨h.1, h.2.1, h.2.2.1, ⟨h.2.2.2.os, h.2.2.2.tape, h.2.2.2.output, h.2.2.2.size, h.2.2.2.block⟩⟩
end
set_option maxHeartbeats 2000000 in
theorem spec_l8Clock (lo hi n c : Nat) (A : Option Addr) (ds : List RecD) (q : Int) (w : World) (h : Slc w lo hi 7 A n c (recs ds)) (hn : n ≤ 1048576) :
    Calls Try.prog 30 #[.slice A n c, .int .i64 q] w fun e w' => e = .returned (.bool (clockB ds q)) ∧ Below w.heap.size w w' := by
  have hl := Lib.hid h.recLen
  go_enter Try.func30, Try.ntmps30
  go_wp2
  go_loopw [5] (fun i wr => ∃ k : Nat, k ≤ n ∧ i = .int .i64 k ∧ Below w.heap.size w wr ∧ ∀ j, j < k → ∀ b, ds[j]? = some b → lateB q b = true) (fun i _ => n - (intOf i).toNat)
  case atStart => exact ⟨0, Nat.zero_le _, rfl, Below.refl _ _, fun j hj => absurd hj (by omega)⟩
  case round =>
    obtain ⟨k, hk, rfl, B, hcs⟩ := hrel
    have HC := Lib.hid hcs
    clear hcs
    by_cases hlt : k < n
    · obtain ⟨b, off, d, hA, _, _, h3, hxk, hv0, hv1, hv2, hv3, hv4, hv5, hv6⟩ := (h.below B).rec7 hlt
      subst hA
      have HX := Lib.hid hxk
      have S0 : wr.cell? ⟨b, off + k * 7 + 3, none⟩ = some (.int .i64 d.f) ∧ wr.cell? ⟨b, off + k * 7 + 4, none⟩ = some (.int .i64 d.h) ∧ wr.cell? ⟨b, off + k * 7 + 5, none⟩ = some (.int .i64 d.t) ∧ Below w.heap.size w wr := ⟨hv3, hv4, hv5, B⟩
      clear hxk h hv0 hv1 hv2 hv3 hv4 hv5 hv6 h3 B
      have i0 : (0 : Int) ≤ (k : Int) := by omega
      have i1 : (k : Int) < (n : Int) := by omega
      go_wp2_with fail
      go_region_held3 (fun W => W.cell? ⟨b, off + k * 7 + 3, none⟩ = some (.int .i64 d.f) ∧ W.cell? ⟨b, off + k * 7 + 4, none⟩ = some (.int .i64 d.h) ∧ W.cell? ⟨b, off + k * 7 + 5, none⟩ = some (.int .i64 d.t) ∧ Below w.heap.size w W)
        (first | exact held3_drew S0 | exact held3_below (by assumption) (by assumption) | exact held3_drew (by assumption))
        (first | fail)
      have S2 : Below w.heap.size w wr.drew := ⟨S0.2.2.2.os, S0.2.2.2.tape, S0.2.2.2.output, S0.2.2.2.size, S0.2.2.2.block⟩
      clear S0
      have ht : decide (q < if (if d.f < d.h then d.h else d.f) < d.t then d.t else if d.f < d.h then d.h else d.f) = !(lateB q d) := by
        rw [Bool.eq_iff_iff]
        simp only [lateB, decide_eq_true_eq, Bool.not_eq_true', decide_eq_false_iff_not]
        by_cases h1 : d.f < d.h
        · rw [if_pos h1]; by_cases h2 : d.h < d.t
          · rw [if_pos h2]; omega
          · rw [if_neg h2]; omega
        · rw [if_neg h1]; by_cases h2 : d.f < d.t
          · rw [if_pos h2]; omega
          · rw [if_neg h2]; omega
      rw [ht]
      obtain ⟨t, htt⟩ : ∃ t, t = !(lateB q d) := ⟨_, rfl⟩
      rw [← htt]
      have HT := Lib.hid htt
      clear ht htt
      cases t
      · have HT2 := Lib.hid (show lateB q d = true by have := HT.out; revert this; cases lateB q d <;> simp)
        go_wp2
        go_roundw
        case rel => exact ⟨k + 1, by omega, by go_num, S2, allF_snoc HC.out HX.out HT2.out⟩
        case measure => simp [intOf]; omega
      · have HT2 := Lib.hid (show lateB q d = false by have := HT.out; revert this; cases lateB q d <;> simp)
        go_wp2
        all_goals go_ret
        all_goals exact ⟨ret_bool (by symm; rw [clockB_late (allF_not HX.out HT2.out)]), S2⟩
    · have e : n = k := by omega
      subst e
      have HA := Lib.hid (allF_of (p := lateB q) HC.out (by rw [hl.out]; exact Nat.le_refl _))
      have hb := h.below B
      clear h
      obtain ⟨t, ht⟩ : ∃ t, t = validR ds := ⟨_, rfl⟩
      have HT := Lib.hid ht
      clear ht
      go_wp2_with fail
      refine (spec_l8Valid _ _ _ _ _ _ _ hb hn).mono ?_
      rintro e w1 ⟨rfl, b1⟩
      rw [← HT.out]
      have B1 := below_step B b1
      clear hb b1 B
      cases t
      · go_wp2
        go_ret
        exact ⟨ret_bool (by symm; rw [clockB_valid HT.out.symm]), B1⟩
      · go_wp2_with ((go_at_call 31; refine (l1In_any _ _ _ _).mono ?_; rintro e w' ⟨rfl, rfl⟩))
        go_ret
        exact ⟨ret_bool (by symm; rw [clockB_all HA.out, ← HT.out]; simp [inB]), B1⟩
set_option maxHeartbeats 2000000 in
theorem impl_clockValid (lo hi n c : Nat) (A : Option Addr) (ds : List RecD) (q : Int) (w : World) (h : Slc w lo hi 7 A n c (recs ds)) (hn : n ≤ 1048576) :
    Calls Try.prog 34 #[.slice A n c, .int .i64 q] w fun e w' => e = .returned (.bool (clockB ds q)) ∧ Below w.heap.size w w' := by
  have hl := Lib.hid h.recLen
  obtain ⟨t, ht⟩ : ∃ t, t = validR ds := ⟨_, rfl⟩
  have HT := Lib.hid ht
  clear ht
  go_enter Try.func34, Try.ntmps34
  go_wp2_with fail
  refine (impl_recordsValid _ _ _ _ _ _ _ h hn).mono ?_
  rintro e w0 ⟨rfl, b0⟩
  rw [← HT.out]
  have h0 := h.below b0
  have B0 := below_step (Below.refl _ _) b0
  clear h b0
  cases t
  · clear h0
    go_wp2
    go_ret
    exact ⟨ret_bool (by symm; rw [clockB_valid HT.out.symm]), B0⟩
  · by_cases hq : 0 ≤ q ∧ q ≤ 3600
    · obtain ⟨q0, q1⟩ := hq
      go_wp2
      go_loopw [20] (fun i wr => ∃ k : Nat, k ≤ n ∧ i = .int .i64 k ∧ Below w0.heap.size w0 wr ∧ ∀ j, j < k → ∀ b, ds[j]? = some b → lateB q b = true) (fun i _ => n - (intOf i).toNat)
      case atStart => exact ⟨0, Nat.zero_le _, rfl, Below.refl _ _, fun j hj => absurd hj (by omega)⟩
      case round =>
        obtain ⟨k, hk, rfl, B, hcs⟩ := hrel
        have HC := Lib.hid hcs
        clear hcs
        by_cases hlt : k < n
        · obtain ⟨b, off, d, hA, _, _, h3, hxk, hv0, hv1, hv2, hv3, hv4, hv5, hv6⟩ := (h0.below B).rec7 hlt
          subst hA
          have HX := Lib.hid hxk
          clear hxk h0
          by_cases hd : d.f ≤ q ∧ d.h ≤ q ∧ d.t ≤ q
          · obtain ⟨d0, d1, d2⟩ := hd
            have e0 : ¬ q < d.f := by omega
            have e1 : ¬ q < d.h := by omega
            have e2 : ¬ q < d.t := by omega
            have HD := Lib.hid (show lateB q d = true by simp [lateB, d0, d1, d2])
            clear d0 d1 d2
            go_wp2
            go_roundw
            case rel => exact ⟨k + 1, by omega, by go_num, below_al B _, allF_snoc HC.out HX.out HD.out⟩
            case measure => simp [intOf]; omega
          · have HD := Lib.hid (show lateB q d = false by simp only [lateB, hd, decide_false])
            have HN := Lib.hid hd
            clear hd
            go_wp2
            all_goals first
              | (go_ret; exact ⟨ret_bool (by symm; rw [clockB_late (allF_not HX.out HD.out)]), B0.trans ((below_al B _).mono B0.size)⟩)
              | (exfalso; have := HN.out; omega)
        · have e : n = k := by omega
          subst e
          have HA := Lib.hid (allF_of (p := lateB q) HC.out (by rw [hl.out]; exact Nat.le_refl _))
          clear h0
          go_wp2
          go_ret
          exact ⟨ret_bool (by symm; rw [clockB_all HA.out, ← HT.out]; simp [q0, q1]), B0.trans (B.mono B0.size)⟩
    · have HQ := Lib.hid hq
      clear hq h0
      go_wp2
      all_goals first
        | (go_ret; exact ⟨ret_bool (by symm; rw [clockB_range HQ.out]), B0⟩)
        | (exfalso; have := HQ.out; omega)
end Go.Proofs.Ytjcpjijihajopaa
