/-
  The walk of the law: FaultTicks answers as the reference does, in memory of its own.
-/
import Derived.Test.YtgcnhojiaaonmaaMarkSS
import Derived.Test.YtgcnhojiaaonmaaLawTasks
namespace Go.Proofs.Ytgcnhojiaaonmaa
open Go.RowKit
set_option linter.unusedVariables false
theorem SaysB.below {w w' : World} {t : Bool} {e : Ending} (h : SaysB w t e w') : e = .returned (.bool t) ∧ Below w.heap.size w w' := by
  obtain ⟨he, m, rfl⟩ := h; exact ⟨he, below_drewN (Below.refl _ _) _⟩
theorem Same.of_below {w w' : World} (h : Below w.heap.size w w') : Same w w' := fun b cs hb => ⟨cs, (h.block b (blk_lt hb)).trans hb, rfl⟩
theorem own_empty (w : World) : Own (w.alloc (.cells #[] 3)) w.heap.size (w.heap.size + 1) (some ⟨w.heap.size, 0, none⟩) 0 0 [] :=
  ⟨⟨rfl, Nat.le_refl _, Nat.zero_le _, fun h => absurd h (by omega)⟩, fun h => absurd h (by omega)⟩
theorem ticksF_len (xss : List (List Int)) : (ticksF xss).length ≤ 1048576 := by
  unfold ticksF; split
  · rename_i h
    obtain ⟨t1, t2, t3⟩ := tasksB_facts h
    have a := faultsUpto_len (longF xss) xss
    have b : longF xss * xss.length ≤ 20 * 4 := Nat.mul_le_mul (longF_le t3) t2
    omega
  · simp
set_option maxHeartbeats 1000000 in
theorem spec_FaultTicks (lo hi lo2 hi2 n c : Nat) (A : Option Addr) (rs : List Row) (w : World) (h : Mat w lo hi lo2 hi2 A n c rs) (hn : n ≤ 1048576) (hr : ∀ r ∈ rs, r.n ≤ 1048576) :
    Calls Try.prog 44 #[.slice A n c] w (NewOwn w (ticksF (rs.map Row.xs)) (tasksB (rs.map Row.xs))) := by
  have HR := Lib.hid hr
  clear hr
  by_cases hT : tasksB (rs.map Row.xs) = true
  · rw [ticksF, if_pos hT, hT]
    have HTB := Lib.hid hT
    clear hT
    go_enter Try.func44, Try.ntmps44
    go_wp2_with fail
    refine (spec_TasksValid _ _ _ _ _ _ _ _ _ h hn HR.out).mono ?_
    rintro e w ⟨rfl, rfl⟩
    rw [HTB.out]
    go_wp2_with fail
    refine (spec_l9Faults _ _ _ _ _ _ _ _ _ h hn HR.out HTB.out).mono ?_
    rintro e w1 ⟨A1, n1, c1, rfl, ho, hb⟩
    clear h
    go_wp2
    go_ret2
    exact ⟨_, _, _, rfl, ho, hb⟩
  · have hT' : tasksB (rs.map Row.xs) = false := by simpa using hT
    rw [ticksF, if_neg hT, hT']
    have HTB := Lib.hid hT'
    clear hT hT'
    go_enter Try.func44, Try.ntmps44
    go_wp2_with fail
    refine (spec_TasksValid _ _ _ _ _ _ _ _ _ h hn HR.out).mono ?_
    rintro e w ⟨rfl, rfl⟩
    rw [HTB.out]
    clear h
    go_wp2
    go_ret2
    exact ⟨_, _, _, rfl, by simpa using own_empty w, below_al (Below.refl _ _) _⟩
theorem Own.len {w : World} {lo hi n c : Nat} {A : Option Addr} {xs : List Int} (h : Own w lo hi A n c xs) : xs.length = n := h.slc.length
set_option maxHeartbeats 2000000 in
theorem walk_FaultTicks (n c : Nat) (A : Option Addr) (rs : List Row) (w : World) (h : Mat w 0 w.heap.size 0 w.heap.size A n c rs) :
    Calls Try.prog 12 #[.slice A n c] w fun e w' => e = .returned (.bool true) ∧ Below w.heap.size w w' := by
  by_cases hs : szMat n rs < 0
  · go_enter Try.func12, Try.ntmps12
    go_wp2_with fail
    refine (szMat_any _ _ _ _ _ _ _ _ _ h).mono ?_
    rintro e w' ⟨rfl, rfl⟩
    clear h
    go_wp2
    go_ret
    exact ⟨rfl, Below.refl _ _⟩
  · have hs0 : 0 ≤ szMat n rs := by omega
    obtain ⟨hn, hr⟩ := szMat_all hs0
    have HR := Lib.hid hr
    have HF := ticksF_len (rs.map Row.xs)
    clear hr hs
    go_enter Try.func12, Try.ntmps12
    go_wp2_with fail
    refine (szMat_any _ _ _ _ _ _ _ _ _ h).mono ?_
    rintro e w ⟨rfl, rfl⟩
    -- the reference's answer
    go_wp2_with fail
    refine (toIntSS_any _ _ _ _ _ _ _ _ _ h hn HR.out).mono ?_
    intro e w1 hnew
    obtain ⟨A1, n1, rs1, rfl, m1, o1, e1, b1⟩ := hnew.rows
    have r1 := h.rowlen m1 e1 HR.out hn
    have E1 := Lib.hid e1
    have h1 := h.below b1
    have s1 := b1.size
    clear hnew o1 e1
    go_wp2_with fail
    refine (spec_FaultTicks _ _ _ _ _ _ _ _ _ m1 r1.1 r1.2).mono ?_
    rintro e w2 ⟨A4, n4, c4, rfl, o4, b2⟩
    rw [E1.out] at o4 ⊢
    have l4 : n4 ≤ 1048576 := by have := o4.len; omega
    have B2 := below_step b1 b2
    have s2 := b2.size
    have h2 := h1.below b2
    clear m1 r1 b1 h1 b2
    -- the program's
    go_wp2_with fail
    refine (toIntSS_any _ _ _ _ _ _ _ _ _ h2 hn HR.out).mono ?_
    intro e w3 hnew
    obtain ⟨A3, n3, rs3, rfl, m3, o3, e3, b3⟩ := hnew.rows
    have r3 := h2.rowlen m3 e3 HR.out hn
    have E3 := Lib.hid e3
    have L3 := r3.1
    have R3 := Lib.hid r3.2
    have W3 := Lib.hid (fun r (hr : r ∈ rs3) => (o3 r hr).wrs)
    have B3 := below_step B2 b3
    have s3 := b3.size
    have h3 := h2.below b3
    have q4 := o4.below b3
    clear hnew o3 e3 r3 B2 h2 b3 o4
    go_wp2_with fail
    refine (impl_FaultTicks _ _ _ _ _ _ _ _ _ m3 L3 R3.out).mono ?_
    rintro e w5 ⟨A7, n7, c7, rfl, o7, b5⟩
    rw [E3.out] at o7 ⊢
    have l7 : n7 ≤ 1048576 := by have := o7.len; omega
    have B5 := below_step B3 b5
    have s5 := b5.size
    have h5 := h3.below b5
    have p4 := q4.below b5
    have m5 := m3.below b5
    have W5 := Lib.hid (fun r (hr : r ∈ rs3) => (W3.out r hr).same (Same.of_below b5))
    clear B3 h3 b5 q4 m3 W3
    have HEQ := Lib.hid (beq_self_eq_true (ticksF (rs.map Row.xs)))
    go_wp2_with fail
    refine (eqIntS_any _ _ _ _ _ _ _ _ _ _ _ _ _ o7.slc p4.slc l7 l4).mono ?_
    intro e w6 hsay
    obtain ⟨rfl, b6⟩ := hsay.below
    rw [HEQ.out]
    have B6 := below_step B5 b6
    have s6 := b6.size
    have h6 := h5.below b6
    have q4 := p4.below b6
    have q7 := o7.below b6
    have m6 := m5.below b6
    have W6 := Lib.hid (fun r (hr : r ∈ rs3) => (W5.out r hr).same (Same.of_below b6))
    clear hsay B5 h5 p4 o7 m5 W5 b6
    go_wp2_with fail
    refine (toIntSS_any _ _ _ _ _ _ _ _ _ h6 hn HR.out).mono ?_
    intro e w7 hnew
    obtain ⟨A8, n8, rs8, rfl, m8, o8, e8, b7⟩ := hnew.rows
    have r8 := h6.rowlen m8 e8 HR.out hn
    have E8 := Lib.hid e8
    have B7 := below_step B6 b7
    have s7 := b7.size
    have h7 := h6.below b7
    have p4 := q4.below b7
    have p7 := q7.below b7
    have m7 := m6.below b7
    have W7 := Lib.hid (fun r (hr : r ∈ rs3) => (W6.out r hr).same (Same.of_below b7))
    clear hnew o8 e8 B6 h6 q4 q7 m6 W6 b7
    go_wp2_with fail
    refine (eqIntSS_any _ _ _ _ _ _ _ _ _ _ _ _ _ _ _ _ _ m7 m8 L3 r8.1 R3.out r8.2).mono ?_
    intro e w8 hsay
    obtain ⟨rfl, b8⟩ := hsay.below
    rw [show (rs3.map Row.xs == rs8.map Row.xs) = true by rw [E3.out, E8.out]; exact beq_self_eq_true _]
    have B8 := below_step B7 b8
    have s8 := b8.size
    have h8 := h7.below b8
    have q4 := p4.below b8
    have q7 := p7.below b8
    have m9 := m7.below b8
    have W8 := Lib.hid (fun r (hr : r ∈ rs3) => (W7.out r hr).same (Same.of_below b8))
    clear hsay B7 h7 p4 p7 m7 m8 r8 W7 b8
    go_wp2_with fail
    refine (markIntSS_any _ _ _ _ _ _ _ _ 1 _ m9 (Nat.le_refl _) L3 R3.out W8.out (by omega) (by omega)).mono ?_
    rintro e w9 ⟨k9, k0, rfl, c9, sm9, z9⟩
    have B9 := Below.chg B8 c9 (by omega)
    have h9 := h8.chg c9 (.inl (by omega)) (.inl (by omega))
    have p4 := q4.chg c9 (.inl (by omega))
    have p7 := q7.chg c9 (.inr (by omega))
    have s9 := c9.size
    clear B8 h8 q4 q7 m9 W8 c9 sm9 z9
    go_wp2_with fail
    refine (eqIntS_any _ _ _ _ _ _ _ _ _ _ _ _ _ p7.slc p4.slc l7 l4).mono ?_
    intro e w10 hsay
    obtain ⟨rfl, b10⟩ := hsay.below
    rw [HEQ.out]
    have B10 := below_step B9 b10
    have s10 := b10.size
    have h10 := h9.below b10
    have q4 := p4.below b10
    have q7 := p7.below b10
    clear hsay B9 h9 p4 p7 b10
    go_wp2_with fail
    refine (markIntS_any _ _ _ _ _ _ 1 _ q7 l7 (by omega) (by omega)).mono ?_
    rintro e w11 ⟨rfl, p7, c11, z11⟩
    have B11 := Below.chg B10 c11 (by omega)
    have h11 := h10.chg c11 (.inl (by omega)) (.inl (by omega))
    have p4 := q4.chg c11 (.inl (by omega))
    have s11 := c11.size
    clear B10 h10 q4 q7 c11 z11
    go_wp2_with fail
    refine (heldIntS_any _ _ _ _ _ 1 _ p7.slc l7 (by omega) (by omega)).mono ?_
    rintro e w11 ⟨rfl, rfl⟩
    go_wp2_with fail
    refine (toIntSS_any _ _ _ _ _ _ _ _ _ h11 hn HR.out).mono ?_
    intro e w12 hnew
    obtain ⟨A12, n12, rs12, rfl, m12, o12, e12, b12⟩ := hnew.rows
    have r12 := h11.rowlen m12 e12 HR.out hn
    have E12 := Lib.hid e12
    have B12 := below_step B11 b12
    have q4 := p4.below b12
    have q7 := p7.below b12
    clear hnew o12 e12 B11 h11 p4 p7 b12
    go_wp2_with fail
    refine (impl_FaultTicks _ _ _ _ _ _ _ _ _ m12 r12.1 r12.2).mono ?_
    rintro e w13 ⟨A13, n13, c13, rfl, o13, b13⟩
    rw [E12.out] at o13 ⊢
    have l13 : n13 ≤ 1048576 := by have := o13.len; omega
    have B13 := below_step B12 b13
    have p4 := q4.below b13
    have p7 := q7.below b13
    clear m12 r12 B12 q4 q7 b13
    go_wp2_with fail
    refine (eqIntS_any _ _ _ _ _ _ _ _ _ _ _ _ _ o13.slc p4.slc l13 l4).mono ?_
    intro e w14 hsay
    obtain ⟨rfl, b14⟩ := hsay.below
    rw [HEQ.out]
    have B14 := below_step B13 b14
    have q7 := p7.below b14
    clear hsay B13 p4 p7 o13 b14
    go_wp2_with fail
    refine (heldIntS_any _ _ _ _ _ 1 _ q7.slc l7 (by omega) (by omega)).mono ?_
    rintro e w14 ⟨rfl, rfl⟩
    clear q7
    go_wp2
    go_ret
    exact ⟨rfl, B14⟩
end Go.Proofs.Ytgcnhojiaaonmaa
