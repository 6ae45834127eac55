/-
  The switchboard: what its memory is, and isEnded.
-/
import Derived.Test.YtojnnemodikpeaaDoorChanMap
import Derived.Test.YtojnnemodikpeaaDoorComm
import Derived.Test.YtojnnemodikpeaaDoorRunA
namespace Go.Proofs.YtojnnemodikpeaaDoor
open Go.RowKit
set_option linter.unusedVariables false
theorem und_chan : Tryd.prog.underlying 81 = some (.chan .both 3) := by kernel_rfl
/-- A switchboard: its struct's block sp, its lines' block gl, its two maps, a channel a line (from line 1 on). -/
structure Sw where
  sp : Nat
  gl : Nat
  cl : Nat
  mc : Nat
  mt : Nat
  cs : List Nat
def Sw.lines (S : Sw) : List Value := .chan none :: S.cs.map fun c => .chan (some c)
/-- What was taken from a line: an entry of the map, or none. -/
def TakenAt (w : World) (base : Nat) (v : Option Value) (xs : List Int) : Prop :=
  (v = none ∧ xs = []) ∨ ∃ g n c, v = some (.slice (some ⟨g, 0, none⟩) n c) ∧ w.ownsRow base 3 1 (.slice (some ⟨g, 0, none⟩) n c) n (ints xs)
/-- The block of a slice that was taken. -/
def takenBlk : Option Value → Option Nat
  | some (.slice (some a) _ _) => some a.block
  | _ => none
structure SwOk (w : World) (base : Nat) (S : Sw) (ls : List Ln) : Prop where
  st : w.heap[S.sp]? = some (.cells #[.slice (some ⟨S.gl, 0, none⟩) (S.cs.length + 1) S.cl, .map (some S.mc), .map (some S.mt)] 80)
  sb : base ≤ S.sp
  lines : w.ownsRow base 81 1 (.slice (some ⟨S.gl, 0, none⟩) (S.cs.length + 1) S.cl) (S.cs.length + 1) S.lines
  len : ls.length = S.cs.length + 1
  head : ls[0]? = some ⟨0, [], false, []⟩
  chans : ∀ (i c : Nat) (l : Ln), S.cs[i]? = some c → ls[i + 1]? = some l → base ≤ c ∧ 0 ≤ l.room ∧ ∃ s r, w.heap[c]? = some (.chan l.room.toNat (ints l.held).toArray l.ended s r false)
  nodup : S.cs.Nodup
  closed : base ≤ S.mc ∧ ∃ ps, ChanMap w S.mc ps ∧ ∀ (i c : Nat) (l : Ln), S.cs[i]? = some c → ls[i + 1]? = some l → (lookC c ps).isSome = l.ended
  taken : base ≤ S.mt ∧ ∃ ps, ChanMap w S.mt ps ∧ (∀ (i c : Nat) (l : Ln), S.cs[i]? = some c → ls[i + 1]? = some l → TakenAt w base (lookC c ps) l.taken) ∧
    ∀ c c' b, c ∈ S.cs → c' ∈ S.cs → takenBlk (lookC c ps) = some b → takenBlk (lookC c' ps) = some b → c = c'
  ne : S.mc ≠ S.mt
theorem zero_int (w : World) : (zeroValue 3).run Tryd.prog w = .ok (.int .i64 0) w := by
  obtain ⟨i0, hi, hz0, _, _⟩ := info_parts info_int
  simp [zeroValue, typeInfo, hi, hz0]
set_option maxHeartbeats 1000000 in
theorem isEnded_any {w : World} {base : Nat} {S : Sw} {ls : List Ln} (h : SwOk w base S ls) {i c : Nat} {l : Ln} (hc : S.cs[i]? = some c) (hl : ls[i + 1]? = some l) :
    Calls Tryd.prog 70 #[.pointer (some ⟨S.sp, 0, none⟩), .chan (some c)] w fun e w' => e = .returned (.bool l.ended) ∧ w' = w := by
  obtain ⟨_, ps, hm, hps⟩ := h.closed
  have he := hps i c l hc hl
  have ec := blk_cell h.st
  have HM := Lib.hid hm
  have HE := Lib.hid he
  clear hps hm he h hc hl
  go_enter Tryd.func70, Tryd.ntmps70
  go_wp2_with (at_lookup; refine wpList_lookup_chan _ rfl (.tmp 11) (.tmp 12) 77 true rfl 3 Tryd.underlying77 und_chan (.int .i64 0) (zero_int _) S.mc c ps rfl rfl HM.out ?_; rw [HE.out]; simp only [if_true])
  go_ret
  exact ⟨rfl, rfl⟩
end Go.Proofs.YtojnnemodikpeaaDoor
