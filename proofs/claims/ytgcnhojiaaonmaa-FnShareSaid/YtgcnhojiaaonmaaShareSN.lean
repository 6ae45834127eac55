/-
  ShareCharge of the reference for all arguments.
-/
import Derived.Test.YtgcnhojiaaonmaaShareS
namespace Go.Proofs.Ytgcnhojiaaonmaa
open Go.RowKit
set_option linter.unusedVariables false
def ShareNoS (w : World) (e : Ending) (w' : World) : Prop := e = .returned (.tuple #[.slice (some ⟨w.heap.size, 0, none⟩) 0 0, .bool false]) ∧ w' = w.alloc (.cells #[] 3)
set_option maxHeartbeats 2000000 in
theorem spec_ShareCharge_no (lo hi n c : Nat) (A : Option Addr) (ch : Int) (ws : List Int) (w : World) (h : Slc w lo hi 1 A n c (ints ws)) (hn : n ≤ 1048576) (hno : shareB ch ws = false) :
    Calls Try.prog 36 #[.int .i64 ch, .slice A n c] w (ShareNoS w) := by
  have HL := Lib.hid h.length
  have HNO := Lib.hid hno
  clear hno
  go_enter Try.func36, Try.ntmps36
  go_wp2
  go_loopw [7, 8] (fun q i wr => ∃ k : Nat, k ≤ n ∧ i = .int .i64 k ∧ q = .int .i64 (ws.take k).sum ∧ (ws.take k).all weightB = true ∧ wr = w.alloc (.cells #[] 3)) (fun _ i _ => n - (intOf i).toNat)
  case atStart => exact ⟨0, Nat.zero_le _, rfl, by simp, by simp, rfl⟩
  case round =>
    obtain ⟨k, hk, rfl, rfl, hall, rfl⟩ := hrel
    obtain ⟨t0, t1, _⟩ := sum_take_bound hall k
    rw [List.take_take, Nat.min_self] at t0 t1
    obtain ⟨q, hq⟩ : ∃ q, q = (ws.take k).sum := ⟨_, rfl⟩
    rw [← hq] at t0 t1 ⊢
    have HQ := Lib.hid hq
    have HA := Lib.hid hall
    clear hq hall
    by_cases hlt : k < n
    · obtain ⟨b, off, x, rfl, _, _, h3, hxk, hv⟩ := (h.alloc (.cells #[] 3)).cellAt hlt
      have HX := Lib.hid (sum_take_succ hxk)
      have HTK := Lib.hid (take_snoc' hxk)
      clear hxk h
      by_cases hx : 0 ≤ x ∧ x ≤ 1000
      · have HW := Lib.hid (show weightB x = true by simp [weightB, inB]; exact hx)
        have x0 := hx.1
        have x1 := hx.2
        have hinx := Lib.hid (show inB x 0 1000 = true by simp [inB]; omega)
        clear hx
        go_wp2_with fail
        refine (l1In_any _ _ _ _).mono ?_
        rintro e w1 ⟨rfl, rfl⟩
        rw [hinx.out]
        go_wp2
        go_roundw
        case rel => exact ⟨k + 1, by omega, by go_num, by rw [HX.out, ← HQ.out], by rw [HTK.out, List.all_append, HA.out]; simp [HW.out], trivial⟩
        case measure => simp [intOf]; omega
      · have hinx := Lib.hid (show inB x 0 1000 = false by simp [inB]; omega)
        clear hx
        go_wp2_with fail
        refine (l1In_any _ _ _ _).mono ?_
        rintro e w1 ⟨rfl, rfl⟩
        rw [hinx.out]
        go_wp2
        go_ret2
        exact ⟨rfl, rfl⟩
    · have e : k = n := by omega
      have htk : ws.take k = ws := List.take_of_length_le (by rw [HL.out]; omega)
      by_cases hch : 0 ≤ ch ∧ ch ≤ 1000000
      · have hIn := Lib.hid (show inB ch 0 1000000 = true by simp [inB]; omega)
        by_cases h10 : 10 < n
        · clear h htk
          go_wp2_with fail
          refine (l1In_any _ _ _ _).mono ?_
          rintro e w1 ⟨rfl, rfl⟩
          rw [hIn.out]
          go_wp2
          go_ret2
          exact ⟨rfl, rfl⟩
        · have hq0 : q = 0 := by
            rw [HQ.out, htk]
            have ha := HA.out
            rw [htk] at ha
            have hb := HNO.out
            unfold shareB at hb
            rw [ha, decide_eq_true (show 0 ≤ ch ∧ ch ≤ 1000000 ∧ ws.length ≤ 10 from ⟨by omega, by omega, by rw [HL.out]; omega⟩)] at hb
            simpa using hb
          subst hq0
          clear h htk
          go_wp2_with fail
          refine (l1In_any _ _ _ _).mono ?_
          rintro e w1 ⟨rfl, rfl⟩
          rw [hIn.out]
          go_wp2
          go_ret2
          exact ⟨rfl, rfl⟩
      · have hIn := Lib.hid (show inB ch 0 1000000 = false by simp [inB]; omega)
        clear h htk
        go_wp2_with fail
        refine (l1In_any _ _ _ _).mono ?_
        rintro e w1 ⟨rfl, rfl⟩
        rw [hIn.out]
        go_wp2
        go_ret2
        exact ⟨rfl, rfl⟩
theorem spec_ShareCharge (lo hi n c : Nat) (A : Option Addr) (ch : Int) (ws : List Int) (w : World) (h : Slc w lo hi 1 A n c (ints ws)) (hn : n ≤ 1048576) :
    Calls Try.prog 36 #[.int .i64 ch, .slice A n c] w (ShareAns w ch ws) := by
  by_cases hb : shareB ch ws = true
  · obtain ⟨⟨c0, c1, c2⟩, ha, hs⟩ := shareB_yes hb
    refine (spec_ShareCharge_yes lo hi n c A ch ws w h c0 c1 (by rw [h.length] at c2; exact c2) ha hs).mono ?_
    rintro e w' ⟨A1, n1, c1, he, ho, B⟩
    exact ⟨A1, n1, c1, by rw [he, hb], by rw [if_pos hb]; exact ho, B⟩
  · have hb' : shareB ch ws = false := by simpa using hb
    refine (spec_ShareCharge_no lo hi n c A ch ws w h hn hb').mono ?_
    rintro e w' ⟨he, rfl⟩
    exact ⟨_, 0, 0, by rw [he, hb'], by
      rw [if_neg hb]
      exact ⟨⟨rfl, Nat.le_refl _, Nat.zero_le _, fun h => absurd h (by omega)⟩, fun h => absurd h (by omega)⟩, below_al (Below.refl _ _) _⟩
end Go.Proofs.Ytgcnhojiaaonmaa
