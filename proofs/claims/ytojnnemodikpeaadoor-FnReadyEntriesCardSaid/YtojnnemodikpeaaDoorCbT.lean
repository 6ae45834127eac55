/-
  cbSame: whether two lists have the same numbers; cbTexts; both in one shape.
-/
import Derived.Test.YtojnnemodikpeaaDoorInts
import Derived.Test.YtojnnemodikpeaaDoorStrS
namespace Go.Proofs.YtojnnemodikpeaaDoor
open Go.RowKit
set_option linter.unusedVariables false
set_option maxHeartbeats 1000000 in
theorem cbSame_any (lo hi n c lo' hi' n' c' : Nat) (A A' : Option Addr) (xs ys : List Int) (w : World) (h : Slc w lo hi 1 A n c (ints xs)) (h' : Slc w lo' hi' 1 A' n' c' (ints ys)) (hn : n ≤ 1048576) (hn' : n' ≤ 1048576) :
    Calls Tryd.prog 32 #[.slice A n c, .slice A' n' c'] w (SaysB w (xs == ys)) := by
  have hl := Lib.hid h.length
  have hl' := Lib.hid h'.length
  go_enter Tryd.func32, Tryd.ntmps32
  go_wp2
  go_loopw [5] (fun i wr => ∃ k : Nat, k ≤ n ∧ k ≤ n' ∧ i = .int .i64 k ∧ (∃ m, wr = w.drewN m) ∧ ∀ j, j < k → xs[j]? = ys[j]?) (fun i _ => n - (intOf i).toNat)
  case atStart => exact ⟨0, Nat.zero_le _, Nat.zero_le _, rfl, ⟨0, rfl⟩, fun j hj => absurd hj (by omega)⟩
  case round =>
    obtain ⟨k, hk, hk', rfl, ⟨m, rfl⟩, hcs⟩ := hrel
    have HC := Lib.hid hcs
    clear hcs
    by_cases hlt : k < n
    · by_cases hlt' : k < n'
      · obtain ⟨b, off, v, rfl, _, _, h3, hxk, hv⟩ := h.cellAt hlt
        obtain ⟨b', off', v', rfl, _, _, h3', hxk', hv'⟩ := h'.cellAt hlt'
        have HX := Lib.hid hxk
        have HX' := Lib.hid hxk'
        clear hxk hxk' h h'
        have i0 : (0 : Int) ≤ (k : Int) := by omega
        have i1 : (k : Int) < (n : Int) := by omega
        have i2 : (k : Int) < (n' : Int) := by omega
        by_cases hvv : v = v'
        · have hb : (v != v') = false := by simp [hvv]
          have HV := Lib.hid hvv
          clear hvv
          go_wp2
          go_quiet (fail)
          go_wp2
          go_roundw
          case rel => exact ⟨k + 1, by omega, by omega, by go_num, ⟨_, rfl⟩, fun j hj => by
            by_cases e : j = k
            · subst e; rw [HX.out, HX'.out, HV.out]
            · exact HC.out j (by omega)⟩
          case measure => simp [intOf]; omega
        · have hb : (v != v') = true := by simp [hvv]
          have HV := Lib.hid hvv
          clear hvv
          go_wp2
          go_quiet (fail)
          go_wp2
          go_ret
          exact ⟨ret_bool (list_ne_of HX.out HX'.out HV.out).symm, _, by first | rfl | exact World.drewN_drewN _ _ _⟩
      · have HN := Lib.hid (show (xs == ys) = false by
          rw [beq_eq_false_iff_ne]; intro e; have := congrArg List.length e; rw [hl.out, hl'.out] at this; omega)
        have hq : ((n : Int) == (n' : Int)) = false := by rw [beq_eq_false_iff_ne]; omega
        clear h h'
        go_wp2
        go_ret
        exact ⟨ret_bool HN.out.symm, _, rfl⟩
    · have e : k = n := by omega
      have HE := Lib.hid e
      clear e h h'
      by_cases hq : n = n'
      · have hq' : ((n : Int) == (n' : Int)) = true := by rw [beq_iff_eq]; omega
        have HQ := Lib.hid hq
        clear hq
        go_wp2
        go_ret
        exact ⟨ret_bool (list_eq_of (by rw [hl.out, hl'.out, HQ.out]) (by rw [hl.out, ← HE.out]; exact HC.out)).symm, _, rfl⟩
      · have hq' : ((n : Int) == (n' : Int)) = false := by rw [beq_eq_false_iff_ne]; omega
        have HN := Lib.hid (show (xs == ys) = false by
          rw [beq_eq_false_iff_ne]; intro e; have := congrArg List.length e; rw [hl.out, hl'.out] at this; omega)
        clear hq
        go_wp2
        go_ret
        exact ⟨ret_bool HN.out.symm, _, rfl⟩
open Go.RowKit
set_option linter.unusedVariables false
set_option maxHeartbeats 1000000 in
theorem cbTexts_any (lo hi n c lo' hi' n' c' : Nat) (A A' : Option Addr) (xs ys : List (List UInt8)) (w : World) (h : Slc w lo hi 1 A n c (txts xs)) (h' : Slc w lo' hi' 1 A' n' c' (txts ys)) (hn : n ≤ 1048576) (hn' : n' ≤ 1048576) :
    Calls Tryd.prog 31 #[.slice A n c, .slice A' n' c'] w (SaysB w (xs == ys)) := by
  have hl := Lib.hid h.txtLen
  have hl' := Lib.hid h'.txtLen
  go_enter Tryd.func31, Tryd.ntmps31
  go_wp2
  go_loopw [5] (fun i wr => ∃ k : Nat, k ≤ n ∧ k ≤ n' ∧ i = .int .i64 k ∧ (∃ m, wr = w.drewN m) ∧ ∀ j, j < k → xs[j]? = ys[j]?) (fun i _ => n - (intOf i).toNat)
  case atStart => exact ⟨0, Nat.zero_le _, Nat.zero_le _, rfl, ⟨0, rfl⟩, fun j hj => absurd hj (by omega)⟩
  case round =>
    obtain ⟨k, hk, hk', rfl, ⟨m, rfl⟩, hcs⟩ := hrel
    have HC := Lib.hid hcs
    clear hcs
    by_cases hlt : k < n
    · by_cases hlt' : k < n'
      · obtain ⟨b, off, v, rfl, _, _, h3, hxk, hv⟩ := h.txtAt hlt
        obtain ⟨b', off', v', rfl, _, _, h3', hxk', hv'⟩ := h'.txtAt hlt'
        have HX := Lib.hid hxk
        have HX' := Lib.hid hxk'
        clear hxk hxk' h h'
        have i0 : (0 : Int) ≤ (k : Int) := by omega
        have i1 : (k : Int) < (n : Int) := by omega
        have i2 : (k : Int) < (n' : Int) := by omega
        obtain ⟨t, ht⟩ : ∃ t, t = (v == v') := ⟨_, rfl⟩
        have hb : (v == v') = t := ht.symm
        have HT := Lib.hid ht
        clear ht
        cases t
        · go_wp2
          go_quiet (fail)
          go_wp2
          go_ret
          exact ⟨ret_bool (by
            symm; rw [beq_eq_false_iff_ne]; intro e; subst e
            have := HX.out.symm.trans HX'.out
            injection this with this
            subst this
            simpa using HT.out), _, by first | rfl | exact World.drewN_drewN _ _ _⟩
        · go_wp2
          go_quiet (fail)
          go_wp2
          go_roundw
          case rel => exact ⟨k + 1, by omega, by omega, by go_num, ⟨_, rfl⟩, fun j hj => by
            by_cases e : j = k
            · subst e; rw [HX.out, HX'.out, eq_of_beq HT.out.symm]
            · exact HC.out j (by omega)⟩
          case measure => simp [intOf]; omega
      · have HN := Lib.hid (show (xs == ys) = false by
          rw [beq_eq_false_iff_ne]; intro e; have := congrArg List.length e; rw [hl.out, hl'.out] at this; omega)
        have hq : ((n : Int) == (n' : Int)) = false := by rw [beq_eq_false_iff_ne]; omega
        clear h h'
        go_wp2
        go_ret
        exact ⟨ret_bool HN.out.symm, _, rfl⟩
    · have e : k = n := by omega
      have HE := Lib.hid e
      clear e h h'
      by_cases hq : n = n'
      · have hq' : ((n : Int) == (n' : Int)) = true := by rw [beq_iff_eq]; omega
        have HQ := Lib.hid hq
        clear hq
        go_wp2
        go_ret
        refine ⟨ret_bool ?_, _, rfl⟩
        symm
        rw [beq_iff_eq]
        apply List.ext_getElem?
        intro j
        by_cases hj : j < k
        · exact HC.out j hj
        · rw [List.getElem?_eq_none (by rw [hl.out, ← HE.out]; omega), List.getElem?_eq_none (by rw [hl'.out, ← HQ.out, ← HE.out]; omega)]
      · have hq' : ((n : Int) == (n' : Int)) = false := by rw [beq_eq_false_iff_ne]; omega
        have HN := Lib.hid (show (xs == ys) = false by
          rw [beq_eq_false_iff_ne]; intro e; have := congrArg List.length e; rw [hl.out, hl'.out] at this; omega)
        clear hq
        go_wp2
        go_ret
        exact ⟨ret_bool HN.out.symm, _, rfl⟩
theorem says_u {w w' : World} {t : Bool} {e : Ending} (h : SaysB w t e w') : e = .returned (.bool t) ∧ Below w.heap.size w w' := by
  obtain ⟨rfl, m, rfl⟩ := h
  exact ⟨rfl, rfl, rfl, rfl, Nat.le_refl _, fun _ _ => rfl⟩
theorem cbSame_u {lo hi n c lo' hi' n' c' : Nat} {A A' : Option Addr} {xs ys : List Int} {w : World} (h : Slc w lo hi 1 A n c (ints xs)) (h' : Slc w lo' hi' 1 A' n' c' (ints ys)) (hn : n ≤ 1048576) (hn' : n' ≤ 1048576) :
    Calls Tryd.prog 32 #[.slice A n c, .slice A' n' c'] w fun e w' => e = .returned (.bool (xs == ys)) ∧ Below w.heap.size w w' := (cbSame_any _ _ _ _ _ _ _ _ _ _ xs ys w h h' hn hn').mono fun _ _ h => says_u h
theorem cbTexts_u {lo hi n c lo' hi' n' c' : Nat} {A A' : Option Addr} {xs ys : List (List UInt8)} {w : World} (h : Slc w lo hi 1 A n c (txts xs)) (h' : Slc w lo' hi' 1 A' n' c' (txts ys)) (hn : n ≤ 1048576) (hn' : n' ≤ 1048576) :
    Calls Tryd.prog 31 #[.slice A n c, .slice A' n' c'] w fun e w' => e = .returned (.bool (xs == ys)) ∧ Below w.heap.size w w' := (cbTexts_any _ _ _ _ _ _ _ _ _ _ xs ys w h h' hn hn').mono fun _ _ h => says_u h
end Go.Proofs.YtojnnemodikpeaaDoor
