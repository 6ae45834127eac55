/-
  longest, l9Longest: the greatest number of tasks.
-/
import Derived.Test.YtgcnhojiaaonmaaTasks
import Derived.Maps.AppendAt
namespace Go.Proofs.Ytgcnhojiaaonmaa
open Go.RowKit
set_option linter.unusedVariables false
def longF (xss : List (List Int)) : Nat := xss.foldl (fun m xs => max m xs.length) 0
theorem longF_snoc (xss : List (List Int)) (xs : List Int) : longF (xss ++ [xs]) = max (longF xss) xs.length := by simp [longF]
theorem take_snoc' {α : Type} {l : List α} {k : Nat} {a : α} (h : l[k]? = some a) : l.take (k + 1) = l.take k ++ [a] := by
  obtain ⟨hk, e⟩ := List.getElem?_eq_some_iff.1 h
  rw [List.take_succ_eq_append_getElem hk, e]
theorem longF_take {xss : List (List Int)} {k : Nat} {xs : List Int} (h : xss[k]? = some xs) : longF (xss.take (k + 1)) = max (longF (xss.take k)) xs.length := by rw [take_snoc' h, longF_snoc]
set_option maxHeartbeats 1000000 in
theorem impl_longest (lo hi lo2 hi2 n c : Nat) (A : Option Addr) (rs : List Row) (w : World) (h : Mat w lo hi lo2 hi2 A n c rs) (hn : n ≤ 1048576) (hr : ∀ r ∈ rs, r.n ≤ 1048576) :
    Calls Try.prog 59 #[.slice A n c] w fun e w' => e = .returned (.int .i64 (longF (rs.map Row.xs))) ∧ w' = w := by
  have hl := Lib.hid h.length
  have HR := Lib.hid hr
  clear hr
  go_enter Try.func59, Try.ntmps59
  go_wp2
  go_loop [3, 8] (fun q i => ∃ (k : Nat) (m : Nat), k ≤ n ∧ q = .int .i64 m ∧ i = .int .i64 k ∧ m ≤ 1048576 ∧ m = longF ((rs.map Row.xs).take k)) (fun _ i => n - (intOf i).toNat)
  case atStart => exact ⟨0, 0, Nat.zero_le _, rfl, rfl, by omega, rfl⟩
  case round =>
    obtain ⟨k, m, hk, rfl, rfl, hm, hcs⟩ := hrel
    have HC := Lib.hid hcs
    clear hcs
    by_cases hlt : k < n
    · obtain ⟨b, off, r, rfl, _, _, h3, hxk, hmem, hv, hrow⟩ := h.rowAt hlt
      have hrn := HR.out r hmem
      have hrl := Lib.hid hrow.length
      have HX := Lib.hid (show (rs.map Row.xs)[k]? = some r.xs by rw [List.getElem?_map, hxk]; rfl)
      clear hxk hmem h hrow
      have HT := Lib.hid (longF_take HX.out)
      have hrm : max m r.n ≤ 1048576 := Nat.max_le.2 ⟨hm, hrn⟩
      go_wp2
      go_round
      case rel => exact ⟨k + 1, max m r.n, by omega, by first | rfl | go_num | (simp; omega), by go_num, hrm, by rw [HT.out, HC.out, hrl.out]⟩
      case measure => simp [intOf]; omega
    · have e : k = n := by omega
      have HE := Lib.hid e
      clear e h
      go_wp2
      go_ret
      exact ⟨ret_int (by rw [HC.out, HE.out, List.take_of_length_le (by simp only [List.length_map]; rw [hl.out]; exact Nat.le_refl _)]), rfl⟩
set_option maxHeartbeats 1000000 in
theorem spec_longest (lo hi lo2 hi2 n c : Nat) (A : Option Addr) (rs : List Row) (w : World) (h : Mat w lo hi lo2 hi2 A n c rs) (hn : n ≤ 1048576) (hr : ∀ r ∈ rs, r.n ≤ 1048576) :
    Calls Try.prog 63 #[.slice A n c] w fun e w' => e = .returned (.int .i64 (longF (rs.map Row.xs))) ∧ w' = w := by
  have hl := Lib.hid h.length
  have HR := Lib.hid hr
  clear hr
  go_enter Try.func63, Try.ntmps63
  go_wp2
  go_loop [3, 4] (fun q i => ∃ (k : Nat) (m : Nat), k ≤ n ∧ q = .int .i64 m ∧ i = .int .i64 k ∧ m ≤ 1048576 ∧ m = longF ((rs.map Row.xs).take k)) (fun _ i => n - (intOf i).toNat)
  case atStart => exact ⟨0, 0, Nat.zero_le _, rfl, rfl, by omega, rfl⟩
  case round =>
    obtain ⟨k, m, hk, rfl, rfl, hm, hcs⟩ := hrel
    have HC := Lib.hid hcs
    clear hcs
    by_cases hlt : k < n
    · obtain ⟨b, off, r, rfl, _, _, h3, hxk, hmem, hv, hrow⟩ := h.rowAt hlt
      have hrn := HR.out r hmem
      have hrl := Lib.hid hrow.length
      have HX := Lib.hid (show (rs.map Row.xs)[k]? = some r.xs by rw [List.getElem?_map, hxk]; rfl)
      clear hxk hmem h hrow
      have HT := Lib.hid (longF_take HX.out)
      have hrm : max m r.n ≤ 1048576 := Nat.max_le.2 ⟨hm, hrn⟩
      go_wp2
      go_round
      case rel => exact ⟨k + 1, max m r.n, by omega, by first | rfl | go_num | (simp; omega), by go_num, hrm, by rw [HT.out, HC.out, hrl.out]⟩
      case measure => simp [intOf]; omega
    · have e : k = n := by omega
      have HE := Lib.hid e
      clear e h
      go_wp2
      go_ret
      exact ⟨ret_int (by rw [HC.out, HE.out, List.take_of_length_le (by simp only [List.length_map]; rw [hl.out]; exact Nat.le_refl _)]), rfl⟩
end Go.Proofs.Ytgcnhojiaaonmaa
