/-
  The walk of the law FnCharge.
-/
import Derived.Test.YtgcnhojiaaonmaaDrawD2
namespace Go.Proofs.Ytgcnhojiaaonmaa
open Go.RowKit
set_option linter.unusedVariables false
theorem chargeF_mono {f s p m m' : Int} (h : tariffB f s p = true) (hm : m ≤ m') : chargeF f s p m ≤ chargeF f s p m' := by
  obtain ⟨b0, b1, b2, b3, b4, b5⟩ := tariffB_bounds h
  unfold chargeF
  by_cases h1 : m' ≤ f
  · rw [if_pos h1, if_pos (by omega)]; omega
  · rw [if_neg h1]
    have hd : 0 ≤ (m' - f + s - 1) / s := Int.ediv_nonneg (by omega) (by omega)
    by_cases h2 : m ≤ f
    · rw [if_pos h2]; exact Int.mul_nonneg hd b4
    · rw [if_neg h2]
      exact Int.mul_le_mul_of_nonneg_right (Int.ediv_le_ediv (by omega) (by omega)) b4
theorem chargeF_step {f s p m : Int} (h : tariffB f s p = true) (hm : f ≤ m) : chargeF f s p (m + s) = chargeF f s p m + p := by
  obtain ⟨b0, b1, b2, b3, b4, b5⟩ := tariffB_bounds h
  have e1 : (m + s - f + s - 1) / s = (m - f + s - 1) / s + 1 := by
    rw [show m + s - f + s - 1 = (m - f + s - 1) + s by omega, Int.add_ediv_of_dvd_right ⟨1, by omega⟩, Int.ediv_self (by omega)]
  unfold chargeF
  rw [if_neg (by omega), e1]
  by_cases h2 : m ≤ f
  · have : m = f := by omega
    subst this
    rw [if_pos (by omega), show m - m + s - 1 = s - 1 by omega, Int.ediv_eq_zero_of_lt (by omega) (by omega)]; omega
  · rw [if_neg h2, Int.add_mul, Int.one_mul]
theorem chargeF_free {f s p : Int} : chargeF f s p f = 0 := by unfold chargeF; rw [if_pos (by omega)]
theorem chargeF_mod {f s p m : Int} : chargeF f s p m % p = 0 := by
  unfold chargeF; split
  · simp
  · exact Int.mul_emod_left ..
theorem blk_drew {w : World} {N : Nat} {o : Obj} (h : w.heap[N]? = some o) : w.drew.heap[N]? = some o := h
theorem below_drew {a w : World} {B : Nat} (h : Below B a w) : Below B a w.drew := ⟨h.os, h.tape, h.output, h.size, h.block⟩
theorem chargeOfF_yes {f s p m : Int} (h : tariffB f s p = true) (h0 : 0 ≤ m) (h1 : m ≤ 3600) : chargeOfF f s p m = chargeF f s p m := by rw [chargeOfF, if_pos ⟨h, h0, h1⟩]
theorem chargeOfF_no {f s p m : Int} (h : ¬ (tariffB f s p = true ∧ 0 ≤ m ∧ m ≤ 3600)) : chargeOfF f s p m = -1 := by rw [chargeOfF, if_neg h]
/-- The tariff's block, and nothing that was there has changed. -/
theorem held3_below {w W W' : World} {b : Nat} {v0 v1 v2 : Value} (h : W.cell? ⟨b, 0, none⟩ = some v0 ∧ W.cell? ⟨b, 1, none⟩ = some v1 ∧ W.cell? ⟨b, 2, none⟩ = some v2 ∧ Below w.heap.size w W) (hb : Below W.heap.size W W') :
    W'.cell? ⟨b, 0, none⟩ = some v0 ∧ W'.cell? ⟨b, 1, none⟩ = some v1 ∧ W'.cell? ⟨b, 2, none⟩ = some v2 ∧ Below w.heap.size w W' := by
  have hlt : b < W.heap.size := World.block_lt_of_cell? W _ h.1
  have e : ∀ o, W'.cell? ⟨b, o, none⟩ = W.cell? ⟨b, o, none⟩ := fun o => World.cell?_of_block (hb.block b hlt)
  exact ⟨(e 0).trans h.1, (e 1).trans h.2.1, (e 2).trans h.2.2.1, below_step h.2.2.2 hb⟩
theorem held3_below' {w W W' : World} {b : Nat} {v0 v1 v2 : Value} (hb : Below W.heap.size W W') (h : W.cell? ⟨b, 0, none⟩ = some v0 ∧ W.cell? ⟨b, 1, none⟩ = some v1 ∧ W.cell? ⟨b, 2, none⟩ = some v2 ∧ Below w.heap.size w W) :
    W'.cell? ⟨b, 0, none⟩ = some v0 ∧ W'.cell? ⟨b, 1, none⟩ = some v1 ∧ W'.cell? ⟨b, 2, none⟩ = some v2 ∧ Below w.heap.size w W' := held3_below h hb
theorem held3_drew {w W : World} {b : Nat} {v0 v1 v2 : Value} (h : W.cell? ⟨b, 0, none⟩ = some v0 ∧ W.cell? ⟨b, 1, none⟩ = some v1 ∧ W.cell? ⟨b, 2, none⟩ = some v2 ∧ Below w.heap.size w W) :
    W.drew.cell? ⟨b, 0, none⟩ = some v0 ∧ W.drew.cell? ⟨b, 1, none⟩ = some v1 ∧ W.drew.cell? ⟨b, 2, none⟩ = some v2 ∧ Below w.heap.size w W.drew := ⟨h.1, h.2.1, h.2.2.1, below_drew h.2.2.2⟩
set_option maxHeartbeats 4000000 in
set_option maxRecDepth 100000 in
theorem walk_Charge (A : Option Addr) (n c : Nat) (w : World) (h : Code w A n c) :
    Calls Try.prog 7 #[.slice A n c] w fun e w' => e = .returned (.bool true) ∧ Below w.heap.size w w' := by
  have hl := h.le
  have hcm := h.cap
  unfold maxLen at hcm
  by_cases hn : 1048576 < n
  · clear h
    go_enter Try.func7, Try.ntmps7
    go_wp2
    go_ret
    exact ⟨rfl, Below.refl _ _⟩
  · go_enter Try.func7, Try.ntmps7
    go_wp2_with fail
    refine (DrawChargeOf_any _ _ _ _ h).mono ?_
    rintro e w1 ⟨f, s, p, m, rfl, b1⟩
    have z1 := b1.size
    clear h
    go_wp2_with fail
    refine (impl_ChargeOf _ _ _ _ _).mono ?_
    rintro e w2 ⟨rfl, b2⟩
    obtain ⟨kt, zt⟩ := blk_below b2 (heap_alloc_new w1 _)
    have et := blk_cell kt
    have B2 := below_step (below_al b1 _) b2
    have S0 : w2.cell? ⟨w1.heap.size, 0, none⟩ = some (.int .i64 f) ∧ w2.cell? ⟨w1.heap.size, 1, none⟩ = some (.int .i64 s) ∧ w2.cell? ⟨w1.heap.size, 2, none⟩ = some (.int .i64 p) ∧ Below w.heap.size w w2 :=
      ⟨et 0, et 1, et 2, B2⟩
    clear b1 b2 kt zt et B2
    by_cases hv : tariffB f s p = true ∧ 0 ≤ m ∧ m ≤ 3600
    · obtain ⟨hT, m0, m1⟩ := hv
      obtain ⟨b0, b1', b2', b3', b4', b5'⟩ := tariffB_bounds hT
      have HM := Lib.hid (chargeOfF_yes hT m0 m1)
      obtain ⟨c0, c1⟩ := chargeF_bounds hT m0 m1
      have HF := Lib.hid (chargeOfF_yes (m := f) hT b0 (by omega))
      have HF0 := Lib.hid (chargeF_free (f := f) (s := s) (p := p))
      rw [HM.out]
      go_wp2_with fail
      have t0 : (chargeF f s p m != chargeF f s p m) = false := by simp
      have t1 : (tariffB f s p != tariffB f s p) = false := by simp
      have t2 : ¬ chargeF f s p m < 0 := by omega
      go_region_held3 (fun W => W.cell? ⟨w1.heap.size, 0, none⟩ = some (.int .i64 f) ∧ W.cell? ⟨w1.heap.size, 1, none⟩ = some (.int .i64 s) ∧ W.cell? ⟨w1.heap.size, 2, none⟩ = some (.int .i64 p) ∧ Below w.heap.size w W) (first | exact held3_drew S0 | exact held3_below' (by assumption) (by assumption))
      (first
        | (go_at_call 22; refine (spec_ChargeOf _ _ _ _ _).mono ?_; rintro e w2 ⟨rfl, b2⟩; rw [HM.out])
        | (go_at_call 17; refine (impl_TariffValid _ _ _ _).mono ?_; rintro e w2 ⟨rfl, b2⟩)
        | (go_at_call 15; refine (spec_TariffValid _ _ _ _).mono ?_; rintro e w2 ⟨rfl, b2⟩))
      have S1 : w2.cell? ⟨w1.heap.size, 0, none⟩ = some (.int .i64 f) ∧ w2.cell? ⟨w1.heap.size, 1, none⟩ = some (.int .i64 s) ∧ w2.cell? ⟨w1.heap.size, 2, none⟩ = some (.int .i64 p) ∧ Below w.heap.size w w2 := by assumption
      clear t0 t1 t2 S0
      obtain ⟨wo, rfl⟩ : ∃ wo : World, wo = w2 := ⟨_, rfl⟩
      obtain ⟨e0, e1, e2, B1⟩ := S1
      have hmo := chargeF_mono (f := f) (s := s) (p := p) hT (show m ≤ m + 1 by omega)
      rcases (show (m + 1 ≤ 3600 ∧ m + s ≤ 3600) ∨ (m + 1 ≤ 3600 ∧ 3600 < m + s) ∨ (3600 < m + 1 ∧ 3600 < m + s) by omega) with ⟨q1, q2⟩ | ⟨q1, q2⟩ | ⟨q1, q2⟩
      · have HM1 := Lib.hid (chargeOfF_yes (m := m + 1) hT (by omega) (by omega))
        have HM2 := Lib.hid (chargeOfF_yes (m := m + s) hT (by omega) (by omega))
        have HS := Lib.hid (fun hm : f ≤ m => fun hx : m + s ≤ 3600 => chargeF_step (p := p) (m := m) hT hm)
        have HD := Lib.hid (chargeF_mod (f := f) (s := s) (p := p) (m := m))
        go_wp2_with fail
        refine (impl_ChargeOf _ _ _ _ _).mono ?_
        rintro e w3 ⟨rfl, b3⟩
        have S3 := held3_below ⟨e0, e1, e2, B1⟩ b3
        obtain ⟨e0, e1, e2, B3⟩ := S3
        rw [HM1.out]
        clear b3 B1
        go_wp2_with fail
        refine (impl_ChargeOf _ _ _ _ _).mono ?_
        rintro e w4 ⟨rfl, b4⟩
        have S4 := held3_below ⟨e0, e1, e2, B3⟩ b4
        obtain ⟨e0, e1, e2, B4⟩ := S4
        rw [HM2.out]
        clear b4 B3
        go_wp2_with fail
        refine (impl_ChargeOf _ _ _ _ _).mono ?_
        rintro e w5 ⟨rfl, b5⟩
        have S5 := held3_below ⟨e0, e1, e2, B4⟩ b5
        obtain ⟨e0, e1, e2, B5⟩ := S5
        rw [HF.out, HF0.out]
        clear b5 B4
        go_wp2_with fail
        all_goals go_ret
        all_goals refine ⟨ret_bool ?_, B5⟩
        all_goals have k0 := HS.out
        all_goals have k1 := HD.out
        all_goals clear e0 e1 e2 B5 HM HF HF0 HM1 HM2 HS HD z1 hl hcm
        all_goals first | (exfalso; omega) | grind
      · have HM1 := Lib.hid (chargeOfF_yes (m := m + 1) hT (by omega) (by omega))
        have HM2 := Lib.hid (chargeOfF_yes (m := 3600) hT (by omega) (by omega))
        have HS := Lib.hid (fun hm : f ≤ m => fun hx : m + s ≤ 3600 => chargeF_step (p := p) (m := m) hT hm)
        have HD := Lib.hid (chargeF_mod (f := f) (s := s) (p := p) (m := m))
        go_wp2_with fail
        refine (impl_ChargeOf _ _ _ _ _).mono ?_
        rintro e w3 ⟨rfl, b3⟩
        have S3 := held3_below ⟨e0, e1, e2, B1⟩ b3
        obtain ⟨e0, e1, e2, B3⟩ := S3
        rw [HM1.out]
        clear b3 B1
        go_wp2_with fail
        refine (impl_ChargeOf _ _ _ _ _).mono ?_
        rintro e w4 ⟨rfl, b4⟩
        have S4 := held3_below ⟨e0, e1, e2, B3⟩ b4
        obtain ⟨e0, e1, e2, B4⟩ := S4
        rw [HM2.out]
        clear b4 B3
        go_wp2_with fail
        refine (impl_ChargeOf _ _ _ _ _).mono ?_
        rintro e w5 ⟨rfl, b5⟩
        have S5 := held3_below ⟨e0, e1, e2, B4⟩ b5
        obtain ⟨e0, e1, e2, B5⟩ := S5
        rw [HF.out, HF0.out]
        clear b5 B4
        go_wp2_with fail
        all_goals go_ret
        all_goals refine ⟨ret_bool ?_, B5⟩
        all_goals have k0 := HS.out
        all_goals have k1 := HD.out
        all_goals clear e0 e1 e2 B5 HM HF HF0 HM1 HM2 HS HD z1 hl hcm
        all_goals first | (exfalso; omega) | grind
      · have HM1 := Lib.hid (chargeOfF_yes (m := 3600) hT (by omega) (by omega))
        have HM2 := Lib.hid (chargeOfF_yes (m := 3600) hT (by omega) (by omega))
        have HS := Lib.hid (fun hm : f ≤ m => fun hx : m + s ≤ 3600 => chargeF_step (p := p) (m := m) hT hm)
        have HD := Lib.hid (chargeF_mod (f := f) (s := s) (p := p) (m := m))
        have hmo2 := chargeF_mono (f := f) (s := s) (p := p) hT m1
        go_wp2_with fail
        refine (impl_ChargeOf _ _ _ _ _).mono ?_
        rintro e w3 ⟨rfl, b3⟩
        have S3 := held3_below ⟨e0, e1, e2, B1⟩ b3
        obtain ⟨e0, e1, e2, B3⟩ := S3
        rw [HM1.out]
        clear b3 B1
        go_wp2_with fail
        refine (impl_ChargeOf _ _ _ _ _).mono ?_
        rintro e w4 ⟨rfl, b4⟩
        have S4 := held3_below ⟨e0, e1, e2, B3⟩ b4
        obtain ⟨e0, e1, e2, B4⟩ := S4
        rw [HM2.out]
        clear b4 B3
        go_wp2_with fail
        refine (impl_ChargeOf _ _ _ _ _).mono ?_
        rintro e w5 ⟨rfl, b5⟩
        have S5 := held3_below ⟨e0, e1, e2, B4⟩ b5
        obtain ⟨e0, e1, e2, B5⟩ := S5
        rw [HF.out, HF0.out]
        clear b5 B4
        go_wp2_with fail
        all_goals go_ret
        all_goals refine ⟨ret_bool ?_, B5⟩
        all_goals have k0 := HS.out
        all_goals have k1 := HD.out
        all_goals clear e0 e1 e2 B5 HM HF HF0 HM1 HM2 HS HD z1 hl hcm
        all_goals first | (exfalso; omega) | grind
    · have hno := chargeOfF_no hv
      have HN := Lib.hid hno
      clear hno
      rw [HN.out]
      go_wp2_with fail
      have t0 : ((-1 : Int) != -1) = false := rfl
      have t1 : (tariffB f s p != tariffB f s p) = false := by simp
      go_region_held3 (fun W => W.cell? ⟨w1.heap.size, 0, none⟩ = some (.int .i64 f) ∧ W.cell? ⟨w1.heap.size, 1, none⟩ = some (.int .i64 s) ∧ W.cell? ⟨w1.heap.size, 2, none⟩ = some (.int .i64 p) ∧ Below w.heap.size w W) (first | exact held3_drew S0 | exact held3_below' (by assumption) (by assumption))
      (first
        | (go_at_call 22; refine (spec_ChargeOf _ _ _ _ _).mono ?_; rintro e w2 ⟨rfl, b2⟩; rw [HN.out])
        | (go_at_call 17; refine (impl_TariffValid _ _ _ _).mono ?_; rintro e w2 ⟨rfl, b2⟩)
        | (go_at_call 15; refine (spec_TariffValid _ _ _ _).mono ?_; rintro e w2 ⟨rfl, b2⟩))
      have S1 : w2.cell? ⟨w1.heap.size, 0, none⟩ = some (.int .i64 f) ∧ w2.cell? ⟨w1.heap.size, 1, none⟩ = some (.int .i64 s) ∧ w2.cell? ⟨w1.heap.size, 2, none⟩ = some (.int .i64 p) ∧ Below w.heap.size w w2 := by assumption
      clear t0 t1 S0
      have S0 := S1
      have t2 : ((-1 : Int) == -1) = true := rfl
      have t3 : (tariffB f s p == tariffB f s p) = true := by simp
      go_wp2_with fail
      go_region_held3 (fun W => W.cell? ⟨w1.heap.size, 0, none⟩ = some (.int .i64 f) ∧ W.cell? ⟨w1.heap.size, 1, none⟩ = some (.int .i64 s) ∧ W.cell? ⟨w1.heap.size, 2, none⟩ = some (.int .i64 p) ∧ Below w.heap.size w W) (first | exact held3_drew S0 | exact held3_below' (by assumption) (by assumption))
      (first
        | (go_at_call 22; refine (spec_ChargeOf _ _ _ _ _).mono ?_; rintro e w2 ⟨rfl, b2⟩; rw [HN.out])
        | (go_at_call 17; refine (impl_TariffValid _ _ _ _).mono ?_; rintro e w2 ⟨rfl, b2⟩)
        | (go_at_call 15; refine (spec_TariffValid _ _ _ _).mono ?_; rintro e w2 ⟨rfl, b2⟩))
      have S2 : w2.cell? ⟨w1.heap.size, 0, none⟩ = some (.int .i64 f) ∧ w2.cell? ⟨w1.heap.size, 1, none⟩ = some (.int .i64 s) ∧ w2.cell? ⟨w1.heap.size, 2, none⟩ = some (.int .i64 p) ∧ Below w.heap.size w w2 := by assumption
      go_wp2_with fail
      go_ret
      exact ⟨rfl, S2.2.2.2⟩
end Go.Proofs.Ytgcnhojiaaonmaa
