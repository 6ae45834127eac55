/-
  ShareCharge of the program, for whatever arguments.
-/
import Derived.Test.YtgcnhojiaaonmaaShareW
import Derived.Test.YtgcnhojiaaonmaaLawFT
namespace Go.Proofs.Ytgcnhojiaaonmaa
open Go.RowKit
set_option linter.unusedVariables false
theorem shareB_ch {ch : Int} {ws : List Int} (h : ¬ (0 ≤ ch ∧ ch ≤ 1000000 ∧ ws.length ≤ 10)) : shareB ch ws = false := by
  unfold shareB; rw [decide_eq_false h]; rfl
theorem shareB_all {ch : Int} {ws : List Int} (h : ws.all weightB = false) : shareB ch ws = false := by
  unfold shareB; rw [h]; simp
theorem shareB_sum {ch : Int} {ws : List Int} (h : ws.sum = 0) : shareB ch ws = false := by
  unfold shareB; rw [h]; simp
theorem shareB_yes {ch : Int} {ws : List Int} (h : shareB ch ws = true) : (0 ≤ ch ∧ ch ≤ 1000000 ∧ ws.length ≤ 10) ∧ ws.all weightB = true ∧ ws.sum ≠ 0 := by
  unfold shareB at h; simp only [Bool.and_eq_true, decide_eq_true_eq] at h; exact ⟨h.1.1, h.1.2, h.2⟩
def ShareNo (w : World) (e : Ending) (w' : World) : Prop := e = .returned (.tuple #[.slice none 0 0, .bool false]) ∧ Below w.heap.size w w'
set_option maxHeartbeats 2000000 in
theorem impl_ShareCharge_no (lo hi n c : Nat) (A : Option Addr) (ch : Int) (ws : List Int) (w : World) (h : Slc w lo hi 1 A n c (ints ws)) (hno : shareB ch ws = false) :
    Calls Try.prog 38 #[.int .i64 ch, .slice A n c] w (ShareNo w) := by
  have hlen := h.length
  have HL := Lib.hid hlen
  by_cases h1 : ch < 0
  · clear h hlen hno
    go_enter Try.func38, Try.ntmps38
    go_wp2
    go_ret2
    exact ⟨rfl, Below.refl _ _⟩
  by_cases h2 : 1000000 < ch
  · clear h hlen hno
    go_enter Try.func38, Try.ntmps38
    go_wp2
    go_ret2
    exact ⟨rfl, Below.refl _ _⟩
  by_cases h3 : 10 < n
  · clear h hlen hno
    go_enter Try.func38, Try.ntmps38
    go_wp2
    go_ret2
    exact ⟨rfl, Below.refl _ _⟩
  have HNO := Lib.hid hno
  clear hlen hno
  go_enter Try.func38, Try.ntmps38
  go_wp2
  go_loop [6, 28] (fun q i => ∃ k : Nat, k ≤ n ∧ i = .int .i64 k ∧ q = .int .i64 (ws.take k).sum ∧ (ws.take k).all weightB = true) (fun _ i => n - (intOf i).toNat)
  case atStart => exact ⟨0, Nat.zero_le _, rfl, by simp, by simp⟩
  case round =>
    obtain ⟨k, hk, rfl, rfl, hall⟩ := hrel
    obtain ⟨t0, t1, _⟩ := sum_take_bound hall k
    rw [List.take_take, Nat.min_self] at t0 t1
    obtain ⟨q, hq⟩ : ∃ q, q = (ws.take k).sum := ⟨_, rfl⟩
    rw [← hq] at t0 t1 ⊢
    have HQ := Lib.hid hq
    have HA := Lib.hid hall
    clear hq hall
    by_cases hlt : k < n
    · obtain ⟨b, off, x, rfl, _, _, _, hxk, hv⟩ := h.cellAt hlt
      have HX := Lib.hid (sum_take_succ hxk)
      have HTK := Lib.hid (take_snoc' hxk)
      clear hxk h
      by_cases hx : 0 ≤ x ∧ x ≤ 1000
      · have HW := Lib.hid (show weightB x = true by simp [weightB, inB]; exact hx)
        have x0 := hx.1
        have x1 := hx.2
        clear hx
        go_wp2
        go_round
        case rel => exact ⟨k + 1, by omega, by go_num, by rw [HX.out, ← HQ.out], by rw [HTK.out, List.all_append, HA.out]; simp [HW.out]⟩
        case measure => simp [intOf]; omega
      · have hx2 : x < 0 ∨ 1000 < x := by omega
        clear hx
        rcases hx2 with hx2 | hx2
        all_goals
          go_wp2
          go_ret2
          exact ⟨rfl, Below.refl _ _⟩
    · have e : k = n := by omega
      have htk : ws.take k = ws := List.take_of_length_le (by rw [HL.out]; omega)
      have hq0 : q = 0 := by
        rw [HQ.out, htk]
        have ha := HA.out
        rw [htk] at ha
        have hb := HNO.out
        unfold shareB at hb
        rw [ha, decide_eq_true (show 0 ≤ ch ∧ ch ≤ 1000000 ∧ ws.length ≤ 10 from ⟨by omega, by omega, by rw [HL.out]; omega⟩)] at hb
        simpa using hb
      subst hq0
      clear h e htk
      go_wp2
      go_ret2
      exact ⟨rfl, Below.refl _ _⟩
theorem impl_ShareCharge (lo hi n c : Nat) (A : Option Addr) (ch : Int) (ws : List Int) (w : World) (h : Slc w lo hi 1 A n c (ints ws)) :
    Calls Try.prog 38 #[.int .i64 ch, .slice A n c] w (ShareAns w ch ws) := by
  by_cases hb : shareB ch ws = true
  · obtain ⟨⟨c0, c1, c2⟩, ha, hs⟩ := shareB_yes hb
    refine (impl_ShareCharge_yes lo hi n c A ch ws w h c0 c1 (by rw [h.length] at c2; exact c2) ha hs).mono ?_
    rintro e w' ⟨A1, n1, c1, he, ho, B⟩
    exact ⟨A1, n1, c1, by rw [he, hb], by rw [if_pos hb]; exact ho, B⟩
  · have hb' : shareB ch ws = false := by simpa using hb
    refine (impl_ShareCharge_no lo hi n c A ch ws w h hb').mono ?_
    rintro e w' ⟨he, B⟩
    exact ⟨none, 0, 0, by rw [he, hb'], by
      rw [if_neg hb]
      exact ⟨⟨rfl, Nat.le_refl _, Nat.zero_le _, fun h => absurd h (by omega)⟩, fun h => absurd h (by omega)⟩, B⟩
end Go.Proofs.Ytgcnhojiaaonmaa
