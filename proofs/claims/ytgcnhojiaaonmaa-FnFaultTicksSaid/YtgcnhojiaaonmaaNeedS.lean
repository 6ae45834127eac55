/-
  FaultsNeeded of the reference.
-/
import Derived.Test.YtgcnhojiaaonmaaNeed
import Derived.Deep.RegionWith
import Derived.Deep.RegionHeld3
namespace Go.Proofs.Ytgcnhojiaaonmaa
open Go.RowKit
set_option linter.unusedVariables false
theorem needS_le_len (ticks : Int) (l : List Int) : ∀ k, needS ticks l k ≤ l.length := by
  intro k
  induction k with
  | zero => exact Nat.zero_le _
  | succ k ih => exact Nat.max_le.2 ⟨ih, Nat.le_trans (recentF_len _ _) (by rw [List.length_take]; exact Nat.min_le_right ..)⟩
theorem max_if (m p : Nat) : (if m < p then (p : Int) else (m : Int)) = ((max m p : Nat) : Int) := by
  by_cases h : m < p
  · rw [if_pos h, Nat.max_eq_right (by omega)]
  · rw [if_neg h, Nat.max_eq_left (by omega)]
theorem drew_more2 {w wo : World} (h : ∃ d, w = wo.drewN d) (n : Nat) : ∃ d, w.drewN n = wo.drewN d := by
  obtain ⟨d, rfl⟩ := h
  exact ⟨d + n, by rw [World.drewN_drewN]⟩
theorem ints_take (xs : List Int) (k : Nat) : ints (xs.take k) = (ints xs).take k := by simp [ints, List.map_take]
theorem Slc.take {w : World} {lo hi n c : Nat} {A : Option Addr} {xs : List Int} (h : Slc w lo hi 1 A n c (ints xs)) {k : Nat} (hk : k ≤ n) : Slc w lo hi 1 A k c (ints (xs.take k)) := by
  refine ⟨?_, Nat.le_trans hk h.le, h.cap, fun h0 => ?_⟩
  · have := h.length; simp [ints]; omega
  · obtain ⟨b, off, e, h1, h2, h3, h4⟩ := h.at_ (by omega)
    refine ⟨b, off, e, h1, h2, h3, fun j v hv => h4 j v ?_⟩
    rw [ints_take, List.getElem?_take] at hv
    split at hv
    · exact hv
    · cases hv
set_option maxHeartbeats 2000000 in
theorem spec_FaultsNeeded (ticks : Int) (lo hi lo2 hi2 n c : Nat) (A : Option Addr) (rs : List Row) (w : World) (h : Mat w lo hi lo2 hi2 A n c rs) (hn : n ≤ 1048576) (hr : ∀ r ∈ rs, r.n ≤ 1048576) :
    Calls Try.prog 47 #[.int .i64 ticks, .slice A n c] w (fun e w' => e = .returned (.int .i64 (needF ticks (rs.map Row.xs))) ∧ Below w.heap.size w w') := by
  have HR := Lib.hid hr
  clear hr
  by_cases hT : tasksB (rs.map Row.xs) = true
  · by_cases hti : 1 ≤ ticks ∧ ticks ≤ 20
    · obtain ⟨q1, q2⟩ := hti
      have HNF := Lib.hid (show needF ticks (rs.map Row.xs) = (needS ticks (ticksF (rs.map Row.xs)) (ticksF (rs.map Row.xs)).length : Nat) by unfold needF; rw [if_pos ⟨hT, q1, q2⟩])
      have HF := ticksF_len (rs.map Row.xs)
      obtain ⟨F, hF⟩ : ∃ F, F = ticksF (rs.map Row.xs) := ⟨_, rfl⟩
      have hFE : F = faultsUpto (longF (rs.map Row.xs)) (rs.map Row.xs) := by rw [hF, ticksF, if_pos hT]
      have hmem : ∀ x ∈ F, 0 ≤ x ∧ x ≤ 20 := fun x hx => by
        rw [hFE] at hx
        have := faultsUpto_mem hx
        have := longF_le (tasksB_facts hT).2.2
        omega
      rw [← hF] at HNF HF
      have HMEM := Lib.hid hmem
      have HFE := Lib.hid hFE
      have HTB := Lib.hid hT
      have hIn := Lib.hid (show inB ticks 1 20 = true by simp [inB]; omega)
      clear hT hF hFE hmem
      go_enter Try.func47, Try.ntmps47
      go_wp2_with fail
      refine (spec_TasksValid _ _ _ _ _ _ _ _ _ h hn HR.out).mono ?_
      rintro e w ⟨rfl, rfl⟩
      rw [HTB.out]
      go_wp2_with fail
      refine (l1In_any _ _ _ _).mono ?_
      rintro e w ⟨rfl, rfl⟩
      rw [hIn.out]
      go_wp2_with fail
      refine (spec_l9Faults _ _ _ _ _ _ _ _ _ h hn HR.out HTB.out).mono ?_
      rintro e w1 ⟨A1, n1, c1, rfl, ho, hb⟩
      rw [← HFE.out] at ho
      have hlen := ho.len
      have hn1 : n1 ≤ 1048576 := by omega
      have HL := Lib.hid hlen
      clear h hlen
      go_wp2
      go_loopw [5, 7] (fun q i wr => ∃ k : Nat, k ≤ n1 ∧ i = .int .i64 k ∧ ∃ m : Nat, q = .int .i64 m ∧ m ≤ 1048576 ∧ m = needS ticks F k ∧ ∃ d, wr = w1.drewN d) (fun _ i _ => n1 - (intOf i).toNat)
      case atStart => exact ⟨0, Nat.zero_le _, rfl, 0, rfl, by omega, rfl, 0, rfl⟩
      case round =>
        obtain ⟨k, hk, rfl, m, rfl, hm, hq, hd⟩ := hrel
        have HQ := Lib.hid hq
        have HD := Lib.hid hd
        have hs : Slc wr w.heap.size w1.heap.size 1 A1 n1 c1 (ints F) := by obtain ⟨d, rfl⟩ := hd; exact ho.slc.drewN d
        clear hq hd
        by_cases hlt : k < n1
        · obtain ⟨b, off, x, rfl, _, _, _, hxk, hv⟩ := hs.cellAt hlt
          obtain ⟨x0, x1⟩ := HMEM.out x (List.mem_of_getElem? hxk)
          have i0 : (0 : Int) ≤ (k : Int) := by omega
          have i1 : (k : Int) < (n1 : Int) := by omega
          have i2 : (0 : Int) ≤ (k : Int) + 1 := by omega
          have i3 : (k : Int) + 1 ≤ (c1 : Int) := by have := hs.le; omega
          have i4 : ((k : Int) + 1).toNat = k + 1 := by omega
          have i5 : ¬ ((k : Int) + 1 < 0) := by omega
          have hw : IntKind.i64.wrap ((k : Int) + 1) = (k : Int) + 1 := IntWalk.i64_in _ (by omega)
          have i7 : (0 : Int) ≤ IntKind.i64.wrap ((k : Int) + 1) := by rw [hw]; omega
          have i8 : IntKind.i64.wrap ((k : Int) + 1) ≤ (c1 : Int) := by rw [hw]; exact i3
          have i6 : k + 1 ≤ c1 := by have := hs.le; omega
          have hs2 := Slc.take hs (k := k + 1) (by omega)
          have HX := Lib.hid (show needS ticks F (k + 1) = max (needS ticks F k) (recentF (F.take (k + 1)) (x - ticks)) by show max _ _ = _; rw [List.getD_eq_getElem?_getD, hxk]; rfl)
          have hle := hs.le
          have hcp := hs.cap
          obtain ⟨p, hp⟩ : ∃ p, p = recentF (F.take (k + 1)) (x - ticks) := ⟨_, rfl⟩
          have hpb : p ≤ 1048576 := by rw [hp]; refine Nat.le_trans (recentF_len _ _) ?_; rw [List.length_take, HL.out]; omega
          have HP := Lib.hid hp
          rw [← hp] at HX
          clear hxk hs hp ho
          go_wp2
          go_region_with (go_at_call 60; refine (l9Recent_any _ _ _ _ _ _ _ _ _ (hs2.drewN _) (by omega) x0 (by omega) (by omega) (by omega)).mono ?_; rintro e w' ⟨rfl, rfl⟩; rw [← HP.out])
          all_goals
            go_wp2
            go_roundw
            case rel => exact ⟨k + 1, by omega, by go_num, max m p, congrArg (Value.int .i64) (max_if m p), Nat.max_le.2 ⟨hm, hpb⟩, by rw [HX.out, HQ.out], drew_more2 HD.out _⟩
            case measure => simp [intOf]; omega
        · have e : k = n1 := by omega
          have HE := Lib.hid (show needF ticks (rs.map Row.xs) = (m : Nat) by rw [HNF.out, HQ.out, HL.out, e])
          have B : Below w.heap.size w wr := by obtain ⟨d, hd⟩ := HD.out; rw [hd]; exact below_drewN hb _
          clear ho
          go_wp2
          go_ret
          exact ⟨by rw [HE.out]; rfl, B⟩
    · have HNF := Lib.hid (show needF ticks (rs.map Row.xs) = -1 by unfold needF; rw [if_neg (fun h => hti h.2)])
      have hIn := Lib.hid (show inB ticks 1 20 = false by simp [inB]; omega)
      have HTB := Lib.hid hT
      clear hT hti
      go_enter Try.func47, Try.ntmps47
      go_wp2_with fail
      refine (spec_TasksValid _ _ _ _ _ _ _ _ _ h hn HR.out).mono ?_
      rintro e w ⟨rfl, rfl⟩
      rw [HTB.out]
      clear h
      go_wp2_with fail
      refine (l1In_any _ _ _ _).mono ?_
      rintro e w ⟨rfl, rfl⟩
      rw [hIn.out]
      go_wp2
      go_ret
      exact ⟨by rw [HNF.out]; rfl, Below.refl _ _⟩
  · have hT' : tasksB (rs.map Row.xs) = false := by simpa using hT
    have HNF := Lib.hid (show needF ticks (rs.map Row.xs) = -1 by unfold needF; rw [if_neg (fun h => hT h.1)])
    have HTB := Lib.hid hT'
    clear hT hT'
    go_enter Try.func47, Try.ntmps47
    go_wp2_with fail
    refine (spec_TasksValid _ _ _ _ _ _ _ _ _ h hn HR.out).mono ?_
    rintro e w ⟨rfl, rfl⟩
    rw [HTB.out]
    clear h
    go_wp2
    go_ret
    exact ⟨by rw [HNF.out]; rfl, Below.refl _ _⟩
end Go.Proofs.Ytgcnhojiaaonmaa
