/-
  The contracts of RecordValid and TalkMinutes, of the program and of the reference.
-/
import Derived.Test.YtjcpjijihajopaaBills
set_option linter.unusedSectionVars false
set_option linter.unusedSimpArgs false
set_option linter.unusedVariables false
namespace Go.Proofs.Ytjcpjijihajopaa
open Go.RowKit
/-- A record's fields in order: call, line, operator, from, heard, to, end. -/
def recP (c l o f h t : Int) (e : List UInt8) : Prop :=
  1 ≤ c ∧ c ≤ 99 ∧ 1 ≤ l ∧ l ≤ 6 ∧ 0 ≤ o ∧ o ≤ 4 ∧ 0 ≤ f ∧ f ≤ 3600 ∧
    ((e = [111, 112, 101, 110] ∧ t = -1 ∧ ((o = 0 ∧ h = -1) ∨ (o ≠ 0 ∧ f ≤ h ∧ h ≤ 3600))) ∨
     (e = [100, 111, 110, 101] ∧ o ≠ 0 ∧ f ≤ h ∧ h ≤ t ∧ t ≤ 3600) ∨
     ((e = [108, 101, 102, 116] ∨ e = [116, 105, 114, 101, 100]) ∧ o = 0 ∧ h = -1 ∧ f ≤ t ∧ t ≤ 3600))
instance (c l o f h t : Int) (e : List UInt8) : Decidable (recP c l o f h t e) := by unfold recP; infer_instance
def recB (c l o f h t : Int) (e : List UInt8) : Bool := decide (recP c l o f h t e)
set_option maxHeartbeats 2000000 in
theorem impl_RecordValid (c l o f h t : Int) (e : ByteArray) (w : World) :
    Calls Try.prog 53 #[.agg #[.int .i64 c, .int .i64 l, .int .i64 o, .int .i64 f, .int .i64 h, .int .i64 t, .string e]] w fun x w' => x = .returned (.bool (recB c l o f h t e.toList)) ∧ Below w.heap.size w w' := by
  go_enter Try.func53, Try.ntmps53
  go_wp2
  all_goals go_ret
  all_goals refine ⟨ret_bool ?_, ((Below.refl _ _).alloc (Nat.le_refl _) _)⟩
  all_goals rw [Bool.eq_iff_iff]
  all_goals simp [recB, recP]
  all_goals grind
def overP (o f h t : Int) (e : List UInt8) : Prop :=
  (e = [100, 111, 110, 101] ∧ 0 < o ∧ f ≤ h ∧ h ≤ t ∧ t ≤ 3600 ∧ f ≤ t) ∨
     ((e = [108, 101, 102, 116] ∨ e = [116, 105, 114, 101, 100]) ∧ o = 0 ∧ h = -1 ∧ f ≤ t ∧ t ≤ 3600)
instance (o f h t : Int) (e : List UInt8) : Decidable (overP o f h t e) := by unfold overP; infer_instance
def overB (o f h t : Int) (e : List UInt8) : Bool := decide (overP o f h t e)
set_option maxHeartbeats 2000000 in
theorem spec_l8Over (c l o f h t : Int) (e : ByteArray) (w : World) :
    Calls Try.prog 81 #[.agg #[.int .i64 c, .int .i64 l, .int .i64 o, .int .i64 f, .int .i64 h, .int .i64 t, .string e]] w fun x w' => x = .returned (.bool (overB o f h t e.toList)) ∧ Below w.heap.size w w' := by
  go_enter Try.func81, Try.ntmps81
  go_wp2_with ((go_at_call 31; refine (l1In_any _ _ _ _).mono ?_; rintro e w' ⟨rfl, rfl⟩))
  all_goals go_ret
  all_goals refine ⟨ret_bool ?_, ((Below.refl _ _).alloc (Nat.le_refl _) _)⟩
  all_goals rw [Bool.eq_iff_iff]
  all_goals simp [overB, overP, inB] at *
  all_goals grind
set_option maxHeartbeats 2000000 in
theorem spec_RecordValid (c l o f h t : Int) (e : ByteArray) (w : World) :
    Calls Try.prog 58 #[.agg #[.int .i64 c, .int .i64 l, .int .i64 o, .int .i64 f, .int .i64 h, .int .i64 t, .string e]] w fun x w' => x = .returned (.bool (recB c l o f h t e.toList)) ∧ Below w.heap.size w w' := by
  go_enter Try.func58, Try.ntmps58
  go_wp2_with (first | (go_at_call 31; refine (l1In_any _ _ _ _).mono ?_; rintro e w' ⟨rfl, rfl⟩) | (go_at_call 81; refine (spec_l8Over _ _ _ _ _ _ _ _).mono ?_; rintro e w1 ⟨rfl, hb1⟩))
  all_goals go_ret
  all_goals refine ⟨ret_bool ?_, by first | exact ((Below.refl _ _).alloc (Nat.le_refl _) _) | exact ((Below.refl _ _).alloc (Nat.le_refl _) _).trans (hb1.mono (by simp))⟩
  all_goals rw [Bool.eq_iff_iff]
  all_goals simp [recB, recP, overB, overP, inB] at *
  all_goals grind
end Go.Proofs.Ytjcpjijihajopaa
