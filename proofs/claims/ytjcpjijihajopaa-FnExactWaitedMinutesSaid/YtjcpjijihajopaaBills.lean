/-
  The contracts of the functions of chapter 8 that only look at one tariff or one record: TariffValid, ChargeOf, RecordValid, TalkMinutes, of the program and of the reference.
-/
import Derived.Test.YtjcpjijihajopaaBase
import Derived.Deep.QuietTactic
import Derived.BigQuiet
set_option linter.unusedSectionVars false
set_option linter.unusedSimpArgs false
set_option linter.unusedVariables false
namespace Go.Proofs.Ytjcpjijihajopaa
open Go.RowKit
def tariffB (f s p : Int) : Bool := decide (0 ≤ f ∧ f ≤ 60 ∧ 1 ≤ s ∧ s ≤ 60 ∧ 0 ≤ p ∧ p ≤ 1000)
def chargeF (f s p m : Int) : Int := if m ≤ f then 0 else (m - f + s - 1) / s * p
def chargeOfF (f s p m : Int) : Int := if tariffB f s p = true ∧ 0 ≤ m ∧ m ≤ 3600 then chargeF f s p m else -1
theorem tariffB_bounds {f s p : Int} (h : tariffB f s p = true) : 0 ≤ f ∧ f ≤ 60 ∧ 1 ≤ s ∧ s ≤ 60 ∧ 0 ≤ p ∧ p ≤ 1000 := by simpa [tariffB] using h
theorem div_bound (a s : Int) (h0 : 0 ≤ a) (h1 : a ≤ 3660) (hs : 1 ≤ s) : 0 ≤ a / s ∧ a / s ≤ 3660 := by
  refine ⟨Int.ediv_nonneg h0 (by omega), ?_⟩
  exact Int.le_trans (Int.ediv_le_self s h0) h1
theorem mul_bound (a p : Int) (h0 : 0 ≤ a) (h1 : a ≤ 3660) (p0 : 0 ≤ p) (p1 : p ≤ 1000) : 0 ≤ a * p ∧ a * p ≤ 3660000 := by
  refine ⟨Int.mul_nonneg h0 p0, ?_⟩
  have e1 : a * p ≤ 3660 * p := Int.mul_le_mul_of_nonneg_right h1 p0
  have e2 : (3660 : Int) * p ≤ 3660 * 1000 := Int.mul_le_mul_of_nonneg_left p1 (by omega)
  omega
theorem chargeF_bounds {f s p m : Int} (h : tariffB f s p = true) (h0 : 0 ≤ m) (h1 : m ≤ 3600) : 0 ≤ chargeF f s p m ∧ chargeF f s p m ≤ 3660000 := by
  obtain ⟨b0, b1, b2, b3, b4, b5⟩ := tariffB_bounds h
  unfold chargeF
  split
  · omega
  · have hd := div_bound (m - f + s - 1) s (by omega) (by omega) b2
    exact mul_bound _ p hd.1 hd.2 b4 b5
set_option maxHeartbeats 1000000 in
theorem impl_TariffValid (f s p : Int) (w : World) :
    Calls Try.prog 44 #[.agg #[.int .i64 f, .int .i64 s, .int .i64 p]] w fun e w' => e = .returned (.bool (tariffB f s p)) ∧ Below w.heap.size w w' := by
  go_enter Try.func44, Try.ntmps44
  go_wp2
  all_goals go_ret
  all_goals exact ⟨ret_bool (by rw [Bool.eq_iff_iff]; simp [tariffB]; omega), ((Below.refl _ _).alloc (Nat.le_refl _) _)⟩
set_option maxHeartbeats 1000000 in
theorem spec_TariffValid (f s p : Int) (w : World) :
    Calls Try.prog 40 #[.agg #[.int .i64 f, .int .i64 s, .int .i64 p]] w fun e w' => e = .returned (.bool (tariffB f s p)) ∧ Below w.heap.size w w' := by
  go_enter Try.func40, Try.ntmps40
  go_wp2_with ((go_at_call 31; refine (l1In_any _ _ _ _).mono ?_; rintro e w' ⟨rfl, rfl⟩))
  all_goals go_ret
  all_goals exact ⟨ret_bool (by rw [Bool.eq_iff_iff]; simp [tariffB, inB] at *; omega), ((Below.refl _ _).alloc (Nat.le_refl _) _)⟩
set_option maxHeartbeats 1000000 in
theorem impl_ChargeOf_yes (f s p m : Int) (w : World) (h : tariffB f s p = true) (h0 : 0 ≤ m) (h1 : m ≤ 3600) :
    Calls Try.prog 27 #[.agg #[.int .i64 f, .int .i64 s, .int .i64 p], .int .i64 m] w fun e w' => e = .returned (.int .i64 (chargeF f s p m)) ∧ Below w.heap.size w w' := by
  obtain ⟨b0, b1, b2, b3, b4, b5⟩ := tariffB_bounds h
  by_cases hm : m ≤ f
  · go_enter Try.func27, Try.ntmps27
    go_wp2_with fail
    refine (impl_TariffValid _ _ _ _).mono ?_
    rintro e w1 ⟨rfl, hb1⟩
    obtain ⟨k1, z1⟩ := blk_below hb1 (heap_alloc_new w _)
    have c1 := blk_cell k1
    have B1 := ((Below.refl w.heap.size w).alloc (Nat.le_refl _) _).trans (hb1.mono (by simp))
    go_wp2
    all_goals go_ret
    all_goals exact ⟨ret_int (by simp [chargeF, hm]), B1⟩
  · obtain ⟨d0, d1⟩ := div_bound (m - f + s - 1) s (by omega) (by omega) b2
    obtain ⟨p0, p1⟩ := mul_bound _ p d0 d1 b4 b5
    have hne : (s == 0) = false := by simp; omega
    go_enter Try.func27, Try.ntmps27
    go_wp2_with fail
    refine (impl_TariffValid _ _ _ _).mono ?_
    rintro e w1 ⟨rfl, hb1⟩
    obtain ⟨k1, z1⟩ := blk_below hb1 (heap_alloc_new w _)
    have c1 := blk_cell k1
    have B1 := ((Below.refl w.heap.size w).alloc (Nat.le_refl _) _).trans (hb1.mono (by simp))
    go_wp2
    all_goals go_ret
    all_goals exact ⟨ret_int (by rw [chargeF, if_neg (by omega)]), B1⟩
set_option maxHeartbeats 1000000 in
theorem impl_ChargeOf_no (f s p m : Int) (w : World) (h : ¬ (tariffB f s p = true ∧ 0 ≤ m ∧ m ≤ 3600)) :
    Calls Try.prog 27 #[.agg #[.int .i64 f, .int .i64 s, .int .i64 p], .int .i64 m] w fun e w' => e = .returned (.int .i64 (-1)) ∧ Below w.heap.size w w' := by
  by_cases hT : tariffB f s p = true
  · by_cases hm : 0 ≤ m
    all_goals
      go_enter Try.func27, Try.ntmps27
      go_wp2_with fail
      refine (impl_TariffValid _ _ _ _).mono ?_
      rintro e w1 ⟨rfl, hb1⟩
      have B1 := ((Below.refl w.heap.size w).alloc (Nat.le_refl _) _).trans (hb1.mono (by simp))
      have hm' : m < 0 ∨ 3600 < m := by
        have : ¬ (0 ≤ m ∧ m ≤ 3600) := fun x => h ⟨hT, x⟩
        omega
      clear h
      rcases hm' with hm' | hm'
      all_goals first | (exfalso; omega) | skip
      all_goals go_wp2
      all_goals go_ret
      all_goals exact ⟨rfl, B1⟩
  · have hT' : tariffB f s p = false := by simpa using hT
    clear h hT
    go_enter Try.func27, Try.ntmps27
    go_wp2_with fail
    refine (impl_TariffValid _ _ _ _).mono ?_
    rintro e w1 ⟨rfl, hb1⟩
    have B1 := ((Below.refl w.heap.size w).alloc (Nat.le_refl _) _).trans (hb1.mono (by simp))
    go_wp2
    all_goals go_ret
    all_goals exact ⟨rfl, B1⟩
theorem impl_ChargeOf (f s p m : Int) (w : World) :
    Calls Try.prog 27 #[.agg #[.int .i64 f, .int .i64 s, .int .i64 p], .int .i64 m] w fun e w' => e = .returned (.int .i64 (chargeOfF f s p m)) ∧ Below w.heap.size w w' := by
  by_cases h : tariffB f s p = true ∧ 0 ≤ m ∧ m ≤ 3600
  · rw [chargeOfF, if_pos h]; exact impl_ChargeOf_yes f s p m w h.1 h.2.1 h.2.2
  · rw [chargeOfF, if_neg h]; exact impl_ChargeOf_no f s p m w h
theorem zero_div (s p : Int) (hs : 1 ≤ s) : (s - 1) / s * p = 0 := by
  rw [Int.ediv_eq_zero_of_lt (by omega) (by omega)]; simp
theorem chargeF_alt (f s p m : Int) (hs : 1 ≤ s) : chargeF f s p m = if m < f then 0 else (m - f + s - 1) / s * p := by
  unfold chargeF
  by_cases h : m < f
  · rw [if_pos h, if_pos (by omega)]
  · rw [if_neg h]
    by_cases e : m = f
    · subst e
      rw [if_pos (by omega), show m - m + s - 1 = s - 1 by omega, zero_div s p hs]
    · rw [if_neg (by omega)]
set_option maxHeartbeats 1000000 in
theorem spec_l8Charge (f s p m : Int) (w : World) (h : tariffB f s p = true) (h0 : 0 ≤ m) (h1 : m ≤ 3600) :
    Calls Try.prog 43 #[.agg #[.int .i64 f, .int .i64 s, .int .i64 p], .int .i64 m] w fun e w' => e = .returned (.int .i64 (chargeF f s p m)) ∧ Below w.heap.size w w' := by
  obtain ⟨b0, b1, b2, b3, b4, b5⟩ := tariffB_bounds h
  have hne : (s == 0) = false := by simp; omega
  have H := Lib.hid (chargeF_alt f s p m b2)
  by_cases hm : m < f
  · have H0 := Lib.hid (zero_div s p b2)
    obtain ⟨d0, d1⟩ := div_bound (s - 1) s (by omega) (by omega) b2
    obtain ⟨p0, p1⟩ := mul_bound _ p d0 d1 b4 b5
    have hx : m - f < 0 := by omega
    go_enter Try.func43, Try.ntmps43
    go_wp2
    go_quiet (fail)
    go_wp2
    go_ret
    exact ⟨ret_int (by rw [H.out, if_pos hm]; exact H0.out), below_drewN ((Below.refl _ _).alloc (Nat.le_refl _) _) _⟩
  · obtain ⟨d0, d1⟩ := div_bound (m - f + s - 1) s (by omega) (by omega) b2
    obtain ⟨p0, p1⟩ := mul_bound _ p d0 d1 b4 b5
    have hx : 0 ≤ m - f := by omega
    go_enter Try.func43, Try.ntmps43
    go_wp2
    go_quiet (fail)
    go_wp2
    go_ret
    exact ⟨ret_int (by rw [H.out, if_neg (by omega)]), below_drewN ((Below.refl _ _).alloc (Nat.le_refl _) _) _⟩
end Go.Proofs.Ytjcpjijihajopaa
