/-
  The walk of the law: ShareCharge answers as the reference does, in memory of its own.
-/
import Derived.Test.YtgcnhojiaaonmaaShareSN
import Derived.Test.YtgcnhojiaaonmaaLawFT
namespace Go.Proofs.Ytgcnhojiaaonmaa
open Go.RowKit
set_option linter.unusedVariables false
theorem giveAll_len (ch S : Int) (ws : List Int) : ∀ (m : Nat) (ps : List Int), (giveAll ch S ws m ps).length = ps.length := by
  intro m
  induction m with
  | zero => intro ps; rfl
  | succ m ih => intro ps; exact (ih _).trans (giveOne_len _ _ _ _)
theorem share_len (ch : Int) (ws : List Int) : (if shareB ch ws = true then shareF ch ws else []).length ≤ 10 := by
  split
  · rename_i h
    have := (shareB_yes h).1.2.2
    unfold shareF
    rw [giveAll_len]
    unfold partsF
    rw [List.length_map]; exact this
  · simp
set_option maxHeartbeats 4000000 in
theorem walk_ShareCharge (ch : Int) (n c : Nat) (A : Option Addr) (ws : List Int) (w : World) (h : Slc w 0 w.heap.size 1 A n c (ints ws)) :
    Calls Try.prog 10 #[.int .i64 ch, .slice A n c] w fun e w' => e = .returned (.bool true) ∧ Below w.heap.size w w' := by
  by_cases hn : 1048576 < n
  · clear h
    go_enter Try.func10, Try.ntmps10
    go_wp2
    go_ret
    exact ⟨rfl, Below.refl _ _⟩
  · have hn' : n ≤ 1048576 := by omega
    have HF := share_len ch ws
    have HEQ := Lib.hid (beq_self_eq_true (if shareB ch ws = true then shareF ch ws else []))
    have HWW := Lib.hid (beq_self_eq_true ws)
    go_enter Try.func10, Try.ntmps10
    go_wp2_with fail
    refine (toIntS_any _ _ _ _ _ _ _ h hn').mono ?_
    intro e w1 hnew
    obtain ⟨A1, n1, c1, rfl, m1, b1⟩ := hnew.own
    have l1 : n1 ≤ 1048576 := by have := m1.len; have := h.length; omega
    have h1 := h.below b1
    have s1 := b1.size
    clear hnew
    go_wp2_with fail
    refine (spec_ShareCharge _ _ _ _ _ _ _ _ m1.slc l1).mono ?_
    rintro e w2 ⟨A4, n4, c4, rfl, o4, b2⟩
    have l4 : n4 ≤ 1048576 := by have := o4.len; omega
    obtain ⟨t, ht⟩ : ∃ t, t = shareB ch ws := ⟨_, rfl⟩
    obtain ⟨F, hF⟩ : ∃ F, F = (if shareB ch ws = true then shareF ch ws else []) := ⟨_, rfl⟩
    rw [← hF] at o4 HF HEQ
    rw [← ht]
    have HT := Lib.hid ht
    have HFF := Lib.hid hF
    have B2 := below_step b1 b2
    have s2 := b2.size
    have h2 := h1.below b2
    clear m1 b1 h1 b2 ht hF
    -- the program's
    go_wp2_with fail
    refine (toIntS_any _ _ _ _ _ _ _ h2 hn').mono ?_
    intro e w3 hnew
    obtain ⟨A3, n3, c3, rfl, m3, b3⟩ := hnew.own
    have l3 : n3 ≤ 1048576 := by have := m3.len; have := h.length; omega
    have B3 := below_step B2 b3
    have s3 := b3.size
    have h3 := h2.below b3
    have q4 := o4.below b3
    clear hnew B2 h2 b3 o4
    go_wp2_with fail
    refine (impl_ShareCharge _ _ _ _ _ _ _ _ m3.slc).mono ?_
    rintro e w5 ⟨A7, n7, c7, rfl, o7, b5⟩
    rw [← HFF.out] at o7
    rw [← HT.out]
    have l7 : n7 ≤ 1048576 := by have := o7.len; omega
    have B5 := below_step B3 b5
    have s5 := b5.size
    have h5 := h3.below b5
    have p4 := q4.below b5
    have m5 := m3.below b5
    clear B3 h3 b5 q4 m3
    go_wp2_with fail
    refine (eqIntS_any _ _ _ _ _ _ _ _ _ _ _ _ _ o7.slc p4.slc l7 l4).mono ?_
    intro e w6 hsay
    obtain ⟨rfl, b6⟩ := hsay.below
    rw [HEQ.out]
    have B6 := below_step B5 b6
    have s6 := b6.size
    have h6 := h5.below b6
    have q4 := p4.below b6
    have q7 := o7.below b6
    have m6 := m5.below b6
    clear hsay B5 h5 p4 o7 m5 b6
    go_wp2_with fail
    refine (toIntS_any _ _ _ _ _ _ _ h6 hn').mono ?_
    intro e w7 hnew
    obtain ⟨A8, n8, c8, rfl, m8, b7⟩ := hnew.own
    have l8 : n8 ≤ 1048576 := by have := m8.len; have := h.length; omega
    have B7 := below_step B6 b7
    have s7 := b7.size
    have h7 := h6.below b7
    have p4 := q4.below b7
    have p7 := q7.below b7
    have m7 := m6.below b7
    clear hnew B6 h6 q4 q7 m6 b7
    go_wp2_with fail
    refine (eqIntS_any _ _ _ _ _ _ _ _ _ _ _ _ _ m7.slc m8.slc l3 l8).mono ?_
    intro e w8 hsay
    obtain ⟨rfl, b8⟩ := hsay.below
    rw [HWW.out]
    have B8 := below_step B7 b8
    have s8 := b8.size
    have h8 := h7.below b8
    have q4 := p4.below b8
    have q7 := p7.below b8
    have m9 := m7.below b8
    clear hsay B7 h7 p4 p7 m7 m8 b8
    go_wp2_with fail
    refine (markIntS_any _ _ _ _ _ _ 1 _ m9 l3 (by omega) (by omega)).mono ?_
    rintro e w9 ⟨rfl, p9, c9, z9⟩
    have B9 := Below.chg B8 c9 (by omega)
    have h9 := h8.chg c9 (.inl (by omega))
    have p4 := q4.chg c9 (.inl (by omega))
    have p7 := q7.chg c9 (.inr (by omega))
    have s9 := c9.size
    clear B8 h8 q4 q7 m9 c9 p9 z9
    go_wp2_with fail
    refine (eqIntS_any _ _ _ _ _ _ _ _ _ _ _ _ _ p7.slc p4.slc l7 l4).mono ?_
    intro e w10 hsay
    obtain ⟨rfl, b10⟩ := hsay.below
    rw [HEQ.out]
    have B10 := below_step B9 b10
    have s10 := b10.size
    have h10 := h9.below b10
    have q4 := p4.below b10
    have q7 := p7.below b10
    clear hsay B9 h9 p4 p7 b10
    go_wp2_with fail
    refine (markIntS_any _ _ _ _ _ _ 1 _ q7 l7 (by omega) (by omega)).mono ?_
    rintro e w11 ⟨rfl, p7, c11, z11⟩
    have B11 := Below.chg B10 c11 (by omega)
    have h11 := h10.chg c11 (.inl (by omega))
    have p4 := q4.chg c11 (.inl (by omega))
    have s11 := c11.size
    clear B10 h10 q4 q7 c11 z11
    go_wp2_with fail
    refine (heldIntS_any _ _ _ _ _ 1 _ p7.slc l7 (by omega) (by omega)).mono ?_
    rintro e w11 ⟨rfl, rfl⟩
    go_wp2_with fail
    refine (toIntS_any _ _ _ _ _ _ _ h11 hn').mono ?_
    intro e w12 hnew
    obtain ⟨A12, n12, c12, rfl, m12, b12⟩ := hnew.own
    have B12 := below_step B11 b12
    have q4 := p4.below b12
    have q7 := p7.below b12
    clear hnew B11 h11 p4 p7 b12
    go_wp2_with fail
    refine (impl_ShareCharge _ _ _ _ _ _ _ _ m12.slc).mono ?_
    rintro e w13 ⟨A13, n13, c13, rfl, o13, b13⟩
    rw [← HFF.out] at o13
    rw [← HT.out]
    have l13 : n13 ≤ 1048576 := by have := o13.len; omega
    have B13 := below_step B12 b13
    have p4 := q4.below b13
    have p7 := q7.below b13
    clear m12 B12 q4 q7 b13
    go_wp2_with fail
    refine (eqIntS_any _ _ _ _ _ _ _ _ _ _ _ _ _ o13.slc p4.slc l13 l4).mono ?_
    intro e w14 hsay
    obtain ⟨rfl, b14⟩ := hsay.below
    rw [HEQ.out]
    have B14 := below_step B13 b14
    have q7 := p7.below b14
    clear hsay B13 p4 p7 o13 b14
    go_wp2_with fail
    refine (heldIntS_any _ _ _ _ _ 1 _ q7.slc l7 (by omega) (by omega)).mono ?_
    rintro e w14 ⟨rfl, rfl⟩
    clear q7
    go_wp2
    go_ret
    exact ⟨rfl, B14⟩
end Go.Proofs.Ytgcnhojiaaonmaa
