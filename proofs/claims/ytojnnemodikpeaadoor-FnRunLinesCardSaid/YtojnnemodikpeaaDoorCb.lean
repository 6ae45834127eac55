/-
  cbSame: whether two lists have the same numbers.
-/
import Derived.Test.YtojnnemodikpeaaDoorInts
namespace Go.Proofs.YtojnnemodikpeaaDoor
open Go.RowKit
set_option linter.unusedVariables false
set_option maxHeartbeats 1000000 in
theorem cbSame_any (lo hi n c lo' hi' n' c' : Nat) (A A' : Option Addr) (xs ys : List Int) (w : World) (h : Slc w lo hi 1 A n c (ints xs)) (h' : Slc w lo' hi' 1 A' n' c' (ints ys)) (hn : n ≤ 1048576) (hn' : n' ≤ 1048576) :
    Calls Tryd.prog 32 #[.slice A n c, .slice A' n' c'] w (SaysB w (xs == ys)) := by
  have hl := Lib.hid h.length
  have hl' := Lib.hid h'.length
  go_enter Tryd.func32, Tryd.ntmps32
  go_wp2
  go_loopw [5] (fun i wr => ∃ k : Nat, k ≤ n ∧ k ≤ n' ∧ i = .int .i64 k ∧ (∃ m, wr = w.drewN m) ∧ ∀ j, j < k → xs[j]? = ys[j]?) (fun i _ => n - (intOf i).toNat)
  case atStart => exact ⟨0, Nat.zero_le _, Nat.zero_le _, rfl, ⟨0, rfl⟩, fun j hj => absurd hj (by omega)⟩
  case round =>
    obtain ⟨k, hk, hk', rfl, ⟨m, rfl⟩, hcs⟩ := hrel
    have HC := Lib.hid hcs
    clear hcs
    by_cases hlt : k < n
    · by_cases hlt' : k < n'
      · obtain ⟨b, off, v, rfl, _, _, h3, hxk, hv⟩ := h.cellAt hlt
        obtain ⟨b', off', v', rfl, _, _, h3', hxk', hv'⟩ := h'.cellAt hlt'
        have HX := Lib.hid hxk
        have HX' := Lib.hid hxk'
        clear hxk hxk' h h'
        have i0 : (0 : Int) ≤ (k : Int) := by omega
        have i1 : (k : Int) < (n : Int) := by omega
        have i2 : (k : Int) < (n' : Int) := by omega
        by_cases hvv : v = v'
        · have hb : (v != v') = false := by simp [hvv]
          have HV := Lib.hid hvv
          clear hvv
          go_wp2
          go_quiet (fail)
          go_wp2
          go_roundw
          case rel => exact ⟨k + 1, by omega, by omega, by go_num, ⟨_, rfl⟩, fun j hj => by
            by_cases e : j = k
            · subst e; rw [HX.out, HX'.out, HV.out]
            · exact HC.out j (by omega)⟩
          case measure => simp [intOf]; omega
        · have hb : (v != v') = true := by simp [hvv]
          have HV := Lib.hid hvv
          clear hvv
          go_wp2
          go_quiet (fail)
          go_wp2
          go_ret
          exact ⟨ret_bool (list_ne_of HX.out HX'.out HV.out).symm, _, by first | rfl | exact World.drewN_drewN _ _ _⟩
      · have HN := Lib.hid (show (xs == ys) = false by
          rw [beq_eq_false_iff_ne]; intro e; have := congrArg List.length e; rw [hl.out, hl'.out] at this; omega)
        have hq : ((n : Int) == (n' : Int)) = false := by rw [beq_eq_false_iff_ne]; omega
        clear h h'
        go_wp2
        go_ret
        exact ⟨ret_bool HN.out.symm, _, rfl⟩
    · have e : k = n := by omega
      have HE := Lib.hid e
      clear e h h'
      by_cases hq : n = n'
      · have hq' : ((n : Int) == (n' : Int)) = true := by rw [beq_iff_eq]; omega
        have HQ := Lib.hid hq
        clear hq
        go_wp2
        go_ret
        exact ⟨ret_bool (list_eq_of (by rw [hl.out, hl'.out, HQ.out]) (by rw [hl.out, ← HE.out]; exact HC.out)).symm, _, rfl⟩
      · have hq' : ((n : Int) == (n' : Int)) = false := by rw [beq_eq_false_iff_ne]; omega
        have HN := Lib.hid (show (xs == ys) = false by
          rw [beq_eq_false_iff_ne]; intro e; have := congrArg List.length e; rw [hl.out, hl'.out] at this; omega)
        clear hq
        go_wp2
        go_ret
        exact ⟨ret_bool HN.out.symm, _, rfl⟩
end Go.Proofs.YtojnnemodikpeaaDoor
