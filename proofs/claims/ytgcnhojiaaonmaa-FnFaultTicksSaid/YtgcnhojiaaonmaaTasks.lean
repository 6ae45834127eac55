/-
  TasksValid, of the program and of the reference.
-/
import Derived.Test.YtgcnhojiaaonmaaMat
namespace Go.Proofs.Ytgcnhojiaaonmaa
open Go.RowKit
set_option linter.unusedVariables false
def taskB (x : Int) : Bool := inB x 0 1000
def rowB (xs : List Int) : Bool := decide (xs.length ≤ 20) && xs.all taskB
def tasksB (xss : List (List Int)) : Bool := decide (1 ≤ xss.length ∧ xss.length ≤ 4) && xss.all rowB
theorem all_snoc {α : Type} {p : α → Bool} {l : List α} {k : Nat} {a : α} (h : ∀ j, j < k → ∀ b, l[j]? = some b → p b = true) (hk : l[k]? = some a) (ha : p a = true) : ∀ j, j < k + 1 → ∀ b, l[j]? = some b → p b = true := by
  intro j hj b hb
  by_cases e : j = k
  · subst e; rw [hk] at hb; injection hb with hb; subst hb; exact ha
  · exact h j (by omega) b hb
theorem all_of {α : Type} {p : α → Bool} {l : List α} {k : Nat} (h : ∀ j, j < k → ∀ b, l[j]? = some b → p b = true) (hk : l.length ≤ k) : l.all p = true := by
  rw [List.all_eq_true]; intro a ha
  obtain ⟨j, hj, e⟩ := List.mem_iff_getElem.1 ha
  exact h j (by omega) a (by rw [List.getElem?_eq_getElem hj, e])
theorem all_not {α : Type} {p : α → Bool} {l : List α} {k : Nat} {a : α} (hk : l[k]? = some a) (ha : p a = false) : l.all p = false := by
  rw [List.all_eq_false]; exact ⟨a, List.mem_of_getElem? hk, by simp [ha]⟩
theorem rowB_not {xs : List Int} (h : xs.all taskB = false) : rowB xs = false := by simp only [rowB, h, Bool.and_false]
theorem rowB_len {xs : List Int} (h : ¬ xs.length ≤ 20) : rowB xs = false := by simp [rowB, h]
theorem rowB_yes {xs : List Int} (h : xs.length ≤ 20) (h' : xs.all taskB = true) : rowB xs = true := by simp [rowB, h, h']
theorem tasksB_not {xss : List (List Int)} (h : xss.all rowB = false) : tasksB xss = false := by simp only [tasksB, h, Bool.and_false]
theorem tasksB_all {xss : List (List Int)} (h : xss.all rowB = true) : tasksB xss = decide (1 ≤ xss.length ∧ xss.length ≤ 4) := by simp only [tasksB, h, Bool.and_true]
theorem tasksB_len {xss : List (List Int)} (h : ¬ (1 ≤ xss.length ∧ xss.length ≤ 4)) : tasksB xss = false := by simp only [tasksB, h, decide_false, Bool.false_and]
set_option maxHeartbeats 1000000 in
theorem spec_TasksValid (lo hi lo2 hi2 n c : Nat) (A : Option Addr) (rs : List Row) (w : World) (h : Mat w lo hi lo2 hi2 A n c rs) (hn : n ≤ 1048576) (hr : ∀ r ∈ rs, r.n ≤ 1048576) :
    Calls Try.prog 32 #[.slice A n c] w fun e w' => e = .returned (.bool (tasksB (rs.map Row.xs))) ∧ w' = w := by
  have hl := Lib.hid h.length
  have HR := Lib.hid hr
  clear hr
  go_enter Try.func32, Try.ntmps32
  go_wp2
  go_loop [3] (fun i => ∃ k : Nat, k ≤ n ∧ i = .int .i64 k ∧ ∀ j, j < k → ∀ b, (rs.map Row.xs)[j]? = some b → rowB b = true) (fun i => n - (intOf i).toNat)
  case atStart => exact ⟨0, Nat.zero_le _, rfl, fun j hj => absurd hj (by omega)⟩
  case round =>
    obtain ⟨k, hk, rfl, hcs⟩ := hrel
    have HC := Lib.hid hcs
    clear hcs
    by_cases hlt : k < n
    · obtain ⟨b, off, r, rfl, _, _, h3, hxk, hmem, hv, hrow⟩ := h.rowAt hlt
      have hrn := HR.out r hmem
      have hrl := Lib.hid hrow.length
      have HX := Lib.hid (show (rs.map Row.xs)[k]? = some r.xs by rw [List.getElem?_map, hxk]; rfl)
      clear hxk hmem h
      go_wp2
      go_loop [4] (fun i => ∃ m : Nat, m ≤ r.n ∧ i = .int .i64 m ∧ ∀ j, j < m → ∀ b, r.xs[j]? = some b → taskB b = true) (fun i => r.n - (intOf i).toNat)
      case atStart => exact ⟨0, Nat.zero_le _, rfl, fun j hj => absurd hj (by omega)⟩
      case round =>
        obtain ⟨m, hm, rfl, hms⟩ := hrel
        have HM := Lib.hid hms
        clear hms
        by_cases hlm : m < r.n
        · obtain ⟨b2, off2, x, hA2, _, _, _, hxm, hv2⟩ := hrow.cellAt hlm
          rw [hA2] at hv
          have HXM := Lib.hid hxm
          clear hxm hrow hA2
          by_cases hx : inB x 0 1000 = true
          · have HT := Lib.hid hx
            go_wp2_with ((go_at_call 50; refine (l1In_any _ _ _ _).mono ?_; rintro e w' ⟨rfl, rfl⟩))
            go_round
            case rel => exact ⟨m + 1, by omega, by go_num, all_snoc HM.out HXM.out HT.out⟩
            case measure => simp [intOf]; omega
          · have hx' : inB x 0 1000 = false := by simpa using hx
            have HT := Lib.hid hx'
            clear hx
            go_wp2_with ((go_at_call 50; refine (l1In_any _ _ _ _).mono ?_; rintro e w' ⟨rfl, rfl⟩))
            go_ret
            exact ⟨ret_bool (tasksB_not (all_not HX.out (rowB_not (all_not HXM.out HT.out)))).symm, rfl⟩
        · have e : m = r.n := by omega
          have HE := Lib.hid e
          clear e hrow
          by_cases h20 : r.n ≤ 20
          · go_wp2
            go_round
            case rel => exact ⟨k + 1, by omega, by go_num, all_snoc HC.out HX.out (rowB_yes (by rw [hrl.out]; exact h20) (all_of HM.out (by rw [hrl.out, HE.out]; exact Nat.le_refl _)))⟩
            case measure => simp [intOf]; omega
          · go_wp2
            go_ret
            exact ⟨ret_bool (tasksB_not (all_not HX.out (rowB_len (by rw [hrl.out]; exact h20)))).symm, rfl⟩
    · have e : k = n := by omega
      have HE := Lib.hid e
      clear e h
      go_wp2_with ((go_at_call 50; refine (l1In_any _ _ _ _).mono ?_; rintro e w' ⟨rfl, rfl⟩))
      go_ret
      refine ⟨ret_bool ?_, rfl⟩
      rw [tasksB_all (all_of HC.out (by simp only [List.length_map]; rw [hl.out, HE.out]; exact Nat.le_refl _)), Bool.eq_iff_iff]
      simp [inB, hl.out]; omega
set_option maxHeartbeats 1000000 in
theorem impl_TasksValid (lo hi lo2 hi2 n c : Nat) (A : Option Addr) (rs : List Row) (w : World) (h : Mat w lo hi lo2 hi2 A n c rs) (hn : n ≤ 1048576) (hr : ∀ r ∈ rs, r.n ≤ 1048576) :
    Calls Try.prog 34 #[.slice A n c] w fun e w' => e = .returned (.bool (tasksB (rs.map Row.xs))) ∧ w' = w := by
  have hl := Lib.hid h.length
  have HR := Lib.hid hr
  clear hr
  by_cases hn4 : 1 ≤ n ∧ n ≤ 4
  · have g1 : 1 ≤ n := hn4.1
    have g2 : n ≤ 4 := hn4.2
    go_enter Try.func34, Try.ntmps34
    go_wp2
    go_loop [17] (fun i => ∃ k : Nat, k ≤ n ∧ i = .int .i64 k ∧ ∀ j, j < k → ∀ b, (rs.map Row.xs)[j]? = some b → rowB b = true) (fun i => n - (intOf i).toNat)
    case atStart => exact ⟨0, Nat.zero_le _, rfl, fun j hj => absurd hj (by omega)⟩
    case round =>
      obtain ⟨k, hk, rfl, hcs⟩ := hrel
      have HC := Lib.hid hcs
      clear hcs
      by_cases hlt : k < n
      · obtain ⟨b, off, r, rfl, _, _, h3, hxk, hmem, hv, hrow⟩ := h.rowAt hlt
        have hrn := HR.out r hmem
        have hrl := Lib.hid hrow.length
        have HX := Lib.hid (show (rs.map Row.xs)[k]? = some r.xs by rw [List.getElem?_map, hxk]; rfl)
        clear hxk hmem h
        by_cases h20 : r.n ≤ 20
        · go_wp2
          go_loop [26] (fun i => ∃ m : Nat, m ≤ r.n ∧ i = .int .i64 m ∧ ∀ j, j < m → ∀ b, r.xs[j]? = some b → taskB b = true) (fun i => r.n - (intOf i).toNat)
          case atStart => exact ⟨0, Nat.zero_le _, rfl, fun j hj => absurd hj (by omega)⟩
          case round =>
            obtain ⟨m, hm, rfl, hms⟩ := hrel
            have HM := Lib.hid hms
            clear hms
            by_cases hlm : m < r.n
            · obtain ⟨b2, off2, x, hA2, _, _, _, hxm, hv2⟩ := hrow.cellAt hlm
              rw [hA2] at hv
              have HXM := Lib.hid hxm
              have HA := Lib.hid hA2
              clear hxm hrow
              by_cases hx : 0 ≤ x ∧ x ≤ 1000
              · have HT := Lib.hid (show taskB x = true by simp [taskB, inB]; exact hx)
                have x0 := hx.1
                have x1 := hx.2
                clear hx
                go_wp2
                go_round
                case rel => exact ⟨_, _, .int .i64 (↑m + 1), ⟨m + 1, by omega, by go_num, all_snoc HM.out HXM.out HT.out⟩, rfl, rfl, rfl⟩
                case measure => simp [intOf]; omega
              · have HT := Lib.hid (show taskB x = false by simp [taskB, inB]; omega)
                by_cases x0 : 0 ≤ x
                all_goals
                  have x1 : x < 0 ∨ 1000 < x := by omega
                  clear hx
                  rcases x1 with x1 | x1
                  all_goals first | (exfalso; omega) | skip
                  all_goals go_wp2
                  all_goals go_ret
                  all_goals exact ⟨ret_bool (tasksB_not (all_not HX.out (rowB_not (all_not HXM.out HT.out)))).symm, rfl⟩
            · have e : m = r.n := by omega
              have HE := Lib.hid e
              clear e hrow
              go_wp2
              go_round
              case rel => exact ⟨k + 1, by omega, by go_num, all_snoc HC.out HX.out (rowB_yes (by rw [hrl.out]; exact h20) (all_of HM.out (by rw [hrl.out, HE.out]; exact Nat.le_refl _)))⟩
              case measure => simp [intOf]; omega
        · clear hrow
          go_wp2
          go_ret
          exact ⟨ret_bool (tasksB_not (all_not HX.out (rowB_len (by rw [hrl.out]; exact h20)))).symm, rfl⟩
      · have e : k = n := by omega
        have HE := Lib.hid e
        clear e h
        go_wp2
        go_ret
        refine ⟨ret_bool ?_, rfl⟩
        rw [tasksB_all (all_of HC.out (by simp only [List.length_map]; rw [hl.out, HE.out]; exact Nat.le_refl _))]
        simp [hl.out]; omega
  · have HF := Lib.hid (tasksB_len (xss := rs.map Row.xs) (by simp only [List.length_map]; rw [hl.out]; exact hn4))
    have hx : n < 1 ∨ 4 < n := by omega
    clear hn4 h
    rcases hx with hx | hx
    all_goals
      go_enter Try.func34, Try.ntmps34
      go_wp2
      go_ret
      exact ⟨ret_bool HF.out.symm, rfl⟩
end Go.Proofs.Ytgcnhojiaaonmaa
