/-
  markText: a text for each number.
-/
import Derived.Test.YtojnnemodikpeaaDoorBase
import Derived.Lib.ItoaNum
import Derived.Lib.ItoaLen
namespace Go.Proofs.YtojnnemodikpeaaDoor
open Go.RowKit
set_option linter.unusedVariables false
/-- The decimal digits of u, none of 0. -/
def digs (u : Nat) : List UInt8 := if u = 0 then [] else Lib.decDigits u
def markT (k : Nat) : ByteArray := ⟨(109 :: (if k = 0 then [48] else Lib.decDigits k)).toArray⟩
theorem digs_step {u : Nat} (h : 0 < u) : digs u = digs (u / 10) ++ [UInt8.ofNat (48 + u % 10)] := by
  unfold digs
  rw [if_neg (by omega)]
  by_cases h10 : u < 10
  · rw [if_pos (by omega), Lib.decDigits_one h10, Nat.mod_eq_of_lt h10]; rfl
  · rw [if_neg (by omega), Lib.decDigits, dif_neg h10]
theorem bytes_app (a b : Array UInt8) : (⟨a⟩ : ByteArray) ++ ⟨b⟩ = ⟨a ++ b⟩ := by
  apply ByteArray.ext; simp [ByteArray.data_append]
theorem dec_len {k : Nat} (hk : k ≤ 100000000) : (Lib.decDigits k).length ≤ 20 := by
  rw [Lib.decDigits_length]; exact Lib.nDigits_le20 k (by omega)
theorem cv1 (w : World) (x : Nat) (hx : x ≤ 255) : (convert 35 9 (.slice (some ⟨w.heap.size, 0, none⟩) 1 1)).run Tryd.prog (w.alloc (.cells #[.int .u8 (x : Int)] 5)) = .ok (.string ⟨[UInt8.ofNat x].toArray⟩) (w.alloc (.cells #[.int .u8 (x : Int)] 5)) :=
  run_convert_bytes_back (P := Tryd.prog) _ 35 9 5 ⟨w.heap.size, 0, none⟩ 1 [UInt8.ofNat x] Tryd.underlying35 Tryd.underlying5 Tryd.underlying9 (fun j hj => by
    obtain rfl : j = 0 := by simp at hj; omega
    simp [Addr.add]
    omega)
set_option maxHeartbeats 1000000 in
set_option maxRecDepth 20000 in
theorem markText_any (k : Nat) (hk : k ≤ 100000000) (w : World) :
    Calls Tryd.prog 66 #[.int .i64 k] w fun e w' => e = .returned (.string (markT k)) ∧ Below w.heap.size w w' := by
  by_cases h0 : k = 0
  · subst h0
    go_enter Tryd.func66, Tryd.ntmps66
    go_wp2
    go_ret
    exact ⟨rfl, Below.refl _ _⟩
  · go_enter Tryd.func66, Tryd.ntmps66
    go_wp2
    go_loopw [0, 3] (fun a s wr => ∃ (u : Nat) (l : List UInt8), a = .int .i64 u ∧ s = .string ⟨l.toArray⟩ ∧ u ≤ 100000000 ∧ digs u ++ l = Lib.decDigits k ∧ Below w.heap.size w wr) (fun a _ _ => (intOf a).toNat)
    case atStart => exact ⟨k, [], rfl, rfl, hk, by simp [digs, h0], Below.refl _ _⟩
    case round =>
      obtain ⟨u, l, rfl, rfl, hu, hl, B⟩ := hrel
      have HL := Lib.hid hl
      clear hl
      by_cases hlt : 0 < u
      · have hcv := cv1 wr (48 + u % 10) (by omega)
        rw [show ((48 + u % 10 : Nat) : Int) = 48 + (u : Int) % 10 by omega] at hcv
        have hll : l.length ≤ 20 := by have := congrArg List.length HL.out; rw [List.length_append] at this; have := dec_len (k := k) (by omega); omega
        have HD := Lib.hid (digs_step hlt)
        go_wp2
        go_roundw
        case rel => exact ⟨u / 10, UInt8.ofNat (48 + u % 10) :: l, by first | rfl | (congr 1; omega), by rw [bytes_app]; simp, by omega, by rw [← HL.out, HD.out]; simp, below_al B _⟩
        case measure => simp [intOf]; omega
      · have hu0 : u = 0 := by omega
        subst hu0
        have hll : l.length ≤ 20 := by have := congrArg List.length HL.out; rw [List.length_append] at this; have := dec_len (k := k) (by omega); omega
        have HT := Lib.hid (show (⟨#[109]⟩ : ByteArray) ++ ⟨l.toArray⟩ = markT k by rw [bytes_app, markT, if_neg h0, ← HL.out]; simp [digs])
        go_wp2
        go_ret
        exact ⟨by rw [HT.out]; rfl, B⟩
end Go.Proofs.YtojnnemodikpeaaDoor
