/-
  The walk of the law: FaultsNeeded answers as the reference does and leaves its arguments.
-/
import Derived.Test.YtgcnhojiaaonmaaNeedJ
namespace Go.Proofs.Ytgcnhojiaaonmaa
open Go.RowKit
set_option linter.unusedVariables false
set_option maxHeartbeats 1000000 in
theorem walk_FaultsNeeded (ticks : Int) (n c : Nat) (A : Option Addr) (rs : List Row) (w : World) (h : Mat w 0 w.heap.size 0 w.heap.size A n c rs) :
    Calls Try.prog 13 #[.int .i64 ticks, .slice A n c] w fun e w' => e = .returned (.bool true) ∧ Below w.heap.size w w' := by
  by_cases hs : szMat n rs < 0
  · go_enter Try.func13, Try.ntmps13
    go_wp2_with fail
    refine (szMat_any _ _ _ _ _ _ _ _ _ h).mono ?_
    rintro e w' ⟨rfl, rfl⟩
    clear h
    go_wp2
    go_ret
    exact ⟨rfl, Below.refl _ _⟩
  · have hs0 : 0 ≤ szMat n rs := by omega
    obtain ⟨hn, hr⟩ := szMat_all hs0
    have HR := Lib.hid hr
    clear hr hs
    go_enter Try.func13, Try.ntmps13
    go_wp2_with fail
    refine (szMat_any _ _ _ _ _ _ _ _ _ h).mono ?_
    rintro e w ⟨rfl, rfl⟩
    go_wp2_with fail
    refine (toIntSS_any _ _ _ _ _ _ _ _ _ h hn HR.out).mono ?_
    intro e w1 hnew
    obtain ⟨A1, n1, rs1, rfl, m1, o1, e1, b1⟩ := hnew.rows
    have r1 := h.rowlen m1 e1 HR.out hn
    have E1 := Lib.hid e1
    have h1 := h.below b1
    clear hnew o1 e1
    go_wp2_with fail
    refine (spec_FaultsNeeded _ _ _ _ _ _ _ _ _ _ m1 r1.1 r1.2).mono ?_
    rintro e w2 ⟨rfl, b2⟩
    rw [E1.out]
    have B2 := below_step b1 b2
    have h2 := h1.below b2
    clear m1 r1 b1 h1 b2
    go_wp2_with fail
    refine (toIntSS_any _ _ _ _ _ _ _ _ _ h2 hn HR.out).mono ?_
    intro e w3 hnew
    obtain ⟨A3, n3, rs3, rfl, m3, o3, e3, b3⟩ := hnew.rows
    have r3 := h2.rowlen m3 e3 HR.out hn
    have E3 := Lib.hid e3
    have L3 := r3.1
    have R3 := Lib.hid r3.2
    have B3 := below_step B2 b3
    have h3 := h2.below b3
    clear hnew o3 e3 r3 B2 h2 b3
    go_wp2_with fail
    refine (impl_FaultsNeeded _ _ _ _ _ _ _ _ _ _ m3 L3 R3.out).mono ?_
    rintro e w5 ⟨rfl, b5⟩
    rw [E3.out]
    have B5 := below_step B3 b5
    have h5 := h3.below b5
    have m5 := m3.below b5
    clear B3 h3 b5 m3
    obtain ⟨z, hz⟩ : ∃ z, z = needF ticks (rs.map Row.xs) := ⟨_, rfl⟩
    rw [← hz]
    clear hz
    go_wp2_with fail
    refine (toIntSS_any _ _ _ _ _ _ _ _ _ h5 hn HR.out).mono ?_
    intro e w7 hnew
    obtain ⟨A8, n8, rs8, rfl, m8, o8, e8, b7⟩ := hnew.rows
    have r8 := h5.rowlen m8 e8 HR.out hn
    have E8 := Lib.hid e8
    have B7 := below_step B5 b7
    have m7 := m5.below b7
    clear hnew o8 e8 B5 h5 m5 b7
    go_wp2_with fail
    refine (eqIntSS_any _ _ _ _ _ _ _ _ _ _ _ _ _ _ _ _ _ m7 m8 L3 r8.1 R3.out r8.2).mono ?_
    intro e w8 hsay
    obtain ⟨rfl, b8⟩ := hsay.below
    rw [show (rs3.map Row.xs == rs8.map Row.xs) = true by rw [E3.out, E8.out]; exact beq_self_eq_true _]
    have B8 := below_step B7 b8
    clear hsay B7 m7 m8 r8 b8
    go_wp2
    go_ret
    exact ⟨rfl, B8⟩
end Go.Proofs.Ytgcnhojiaaonmaa
