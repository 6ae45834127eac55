/-
  l11Dec: the decimal text of a number that is not negative.
-/
import Derived.Test.YtojnnemodikpeaaDoorText
namespace Go.Proofs.YtojnnemodikpeaaDoor
open Go.RowKit
set_option linter.unusedVariables false
theorem digs_dec {u : Nat} : digs u ++ [] = digs u := List.append_nil _
theorem dec_big {u : Nat} (h : 9 < u) : Lib.decDigits u = Lib.decDigits (u / 10) ++ [UInt8.ofNat (48 + u % 10)] := by
  rw [Lib.decDigits, dif_neg (by omega)]
set_option maxHeartbeats 1000000 in
set_option maxRecDepth 20000 in
theorem l11Dec_any (k : Nat) (hk : k ≤ 100000000) (w : World) :
    Calls Tryd.prog 97 #[.int .i64 k] w fun e w' => e = .returned (.string ⟨(Lib.itoa k).toArray⟩) ∧ Below w.heap.size w w' := by
  have hI := Lib.hid (Lib.itoa_nonneg k)
  go_enter Tryd.func97, Tryd.ntmps97
  go_wp2
  go_loopw [0, 3] (fun a s wr => ∃ (u : Nat) (l : List UInt8), a = .int .i64 u ∧ s = .string ⟨l.toArray⟩ ∧ u ≤ 100000000 ∧ Lib.decDigits u ++ l = Lib.decDigits k ∧ Below w.heap.size w wr) (fun a _ _ => (intOf a).toNat)
  case atStart => exact ⟨k, [], rfl, rfl, hk, List.append_nil _, Below.refl _ _⟩
  case round =>
    obtain ⟨u, l, rfl, rfl, hu, hl, B⟩ := hrel
    have HL := Lib.hid hl
    clear hl
    have hll : l.length ≤ 20 := by have := congrArg List.length HL.out; rw [List.length_append] at this; have := dec_len (k := k) (by omega); omega
    by_cases hlt : 9 < u
    · have hcv := cv1 wr (48 + u % 10) (by omega)
      rw [show ((48 + u % 10 : Nat) : Int) = 48 + (u : Int) % 10 by omega] at hcv
      have HD := Lib.hid (dec_big hlt)
      go_wp2
      go_roundw
      case rel => exact ⟨u / 10, UInt8.ofNat (48 + u % 10) :: l, by first | rfl | (congr 1; omega), by rw [bytes_app]; simp, by omega, by rw [← HL.out, HD.out]; simp, below_al B _⟩
      case measure => simp [intOf]; omega
    · have hcv := cv1 wr (48 + u) (by omega)
      rw [show ((48 + u : Nat) : Int) = 48 + (u : Int) by omega] at hcv
      have HT := Lib.hid (show (⟨[UInt8.ofNat (48 + u)].toArray⟩ : ByteArray) ++ ⟨l.toArray⟩ = ⟨(Lib.itoa k).toArray⟩ by rw [bytes_app, hI.out, ← HL.out, Lib.decDigits_one (by omega)]; simp)
      go_wp2
      go_ret
      exact ⟨congrArg (fun x => Ending.returned (Value.string x)) (by rw [← HT.out]; simp), below_al B _⟩
end Go.Proofs.YtojnnemodikpeaaDoor
