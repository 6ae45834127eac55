/-
  FaultsNeeded of the program: the counts of each tick, and a window of them.
-/
import Derived.Test.YtgcnhojiaaonmaaNeedS
namespace Go.Proofs.Ytgcnhojiaaonmaa
open Go.RowKit
set_option linter.unusedVariables false
def cntF (l : List Int) (u : Nat) : Nat := l.countP fun x => decide (x = (u : Int))
def cnts (l : List Int) : List Int := (List.range 20).map fun u => (cntF l u : Int)
theorem cnts_get (l : List Int) {u : Nat} (h : u < 20) : (cnts l)[u]? = some (cntF l u : Int) := by simp [cnts, h]
theorem cntF_le (l : List Int) (u : Nat) : cntF l u ≤ l.length := List.countP_le_length
theorem winF_len (l : List Int) (d t : Int) : winF l d t ≤ l.length := List.countP_le_length
theorem winF_step (l : List Int) {d : Int} {u : Nat} (h : d < u) : winF l d u = winF l d ((u : Int) - 1) + cntF l u := by
  unfold winF cntF
  induction l with
  | nil => rfl
  | cons x l ih =>
    rw [List.countP_cons, List.countP_cons, List.countP_cons, ih]
    by_cases h1 : x = (u : Int)
    · subst h1; have : ¬ ((u : Int) ≤ (u : Int) - 1) := by omega
      simp [h, this]; omega
    · by_cases h2 : x ≤ (u : Int)
      · have : x ≤ (u : Int) - 1 := by omega
        simp [h1, h2, this]; omega
      · have : ¬ x ≤ (u : Int) - 1 := by omega
        simp [h1, h2, this]
theorem winF_zero (l : List Int) {d s : Int} (hl : ∀ x ∈ l, 0 ≤ x) (h : s ≤ d + 1 ∨ s ≤ 0) : winF l d (s - 1) = 0 := by
  unfold winF
  rw [List.countP_eq_zero]
  intro x hx
  have := hl x hx
  simp; omega
set_option maxHeartbeats 1000000 in
theorem faultsIn_any (lo hi c : Nat) (A : Option Addr) (F : List Int) (tick : Nat) (ticks : Int) (w : World) (h : Slc w lo hi 1 A 20 c (ints (cnts F))) (hF : F.length ≤ 1048576) (hm : ∀ x ∈ F, 0 ≤ x) (h1 : tick < 20) (h2 : 1 ≤ ticks) (h3 : ticks ≤ 20) :
    Calls Try.prog 61 #[.slice A 20 c, .int .i64 tick, .int .i64 ticks] w fun e w' => e = .returned (.int .i64 (winF F ((tick : Int) - ticks) tick : Nat)) ∧ w' = w := by
  have HM := Lib.hid hm
  clear hm
  have hcase : 0 < (tick : Int) - ticks + 1 ∨ (tick : Int) - ticks + 1 ≤ 0 := by omega
  rcases hcase with hs | hs
  all_goals
    go_enter Try.func61, Try.ntmps61
    go_wp2
    go_loop [7, 8] (fun q i => ∃ u : Nat, i = .int .i64 u ∧ (tick : Int) - ticks < u ∧ u ≤ tick + 1 ∧ ∃ m : Nat, q = .int .i64 m ∧ m ≤ 1048576 ∧ m = winF F ((tick : Int) - ticks) ((u : Int) - 1)) (fun _ i => 21 - (intOf i).toNat)
    case atStart =>
      first
        | (refine ⟨0, rfl, by omega, by omega, 0, rfl, by omega, (winF_zero F HM.out (.inr (by omega))).symm⟩; done)
        | (obtain ⟨s, hse⟩ : ∃ s : Nat, (tick : Int) - ticks + 1 = s := ⟨((tick : Int) - ticks + 1).toNat, by omega⟩
           exact ⟨s, congrArg (Value.int .i64) hse, by omega, by omega, 0, rfl, by omega, (winF_zero F HM.out (.inl (by omega))).symm⟩)
    case round =>
      obtain ⟨u, rfl, hu0, hu1, m, rfl, hm, hq⟩ := hrel
      have HQ := Lib.hid hq
      clear hq
      by_cases hlt : u ≤ tick
      · obtain ⟨b, off, x, rfl, _, _, _, hxk, hv⟩ := h.cellAt (k := u) (by omega)
        rw [cnts_get F (by omega)] at hxk
        injection hxk with hxk
        subst hxk
        have HX := Lib.hid (winF_step F hu0)
        have hc := cntF_le F u
        have hwl := winF_len F ((tick : Int) - ticks) u
        have hsum : m + cntF F u ≤ 1048576 := by rw [HQ.out, ← HX.out]; omega
        have j0 : (0 : Int) ≤ (u : Int) := by omega
        have j1 : (u : Int) < 20 := by omega
        have j2 : (u : Int) ≤ (tick : Int) := by omega
        have HW := Lib.hid (show m + cntF F u = winF F ((tick : Int) - ticks) ((u + 1 : Nat) - 1 : Int) by rw [HQ.out, ← HX.out]; congr 1; omega)
        obtain ⟨y, hy⟩ : ∃ y, y = cntF F u := ⟨_, rfl⟩
        rw [← hy] at hv hc hsum HW
        clear h hwl HX hy
        go_wp2
        go_round
        case rel => exact ⟨u + 1, by go_num, by omega, by omega, m + y, by go_num, hsum, HW.out⟩
        case measure => simp [intOf]; omega
      · have e : u = tick + 1 := by omega
        have HE := Lib.hid (show m = winF F ((tick : Int) - ticks) tick by rw [HQ.out, e]; congr 1; omega)
        have j2 : ¬ (u : Int) ≤ (tick : Int) := by omega
        clear h
        go_wp2
        go_ret
        exact ⟨congrArg (fun z : Nat => Ending.returned (Value.int .i64 (z : Int))) HE.out, rfl⟩
end Go.Proofs.Ytgcnhojiaaonmaa
