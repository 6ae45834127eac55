/-
  The walk of the law: TasksValid answers as the reference does.
-/
import Derived.Test.YtgcnhojiaaonmaaTasks
namespace Go.Proofs.Ytgcnhojiaaonmaa
open Go.RowKit
set_option linter.unusedVariables false
def szMat (n : Nat) (rs : List Row) : Int := if (1048576 : Int) < n then -1 else szRows (1048576 - n) rs
theorem szRows_all {rs : List Row} : ∀ {l : Int}, 0 ≤ szRows l rs → l ≤ 1048576 → ∀ r ∈ rs, r.n ≤ 1048576 := by
  induction rs with
  | nil => intro l _ _ r hr; cases hr
  | cons q rs ih =>
    intro l h hl r hr
    rw [szRows] at h
    split at h
    · omega
    · rcases List.mem_cons.1 hr with e | hr
      · subst e; omega
      · exact ih h (by omega) r hr
theorem szMat_all {n : Nat} {rs : List Row} (h : 0 ≤ szMat n rs) : n ≤ 1048576 ∧ ∀ r ∈ rs, r.n ≤ 1048576 := by
  unfold szMat at h
  split at h
  · omega
  · exact ⟨by omega, szRows_all h (by omega)⟩
theorem szRows_neg {rs : List Row} : ∀ {l : Int}, szRows l rs < 0 → 0 ≤ l → szRows l rs = -1 := by
  induction rs with
  | nil => intro l h h0; rw [szRows] at h; omega
  | cons q rs ih =>
    intro l h h0
    rw [szRows] at h ⊢
    split
    · rfl
    · rename_i hq; rw [if_neg hq] at h; exact ih h (by omega)
theorem szRows_le {rs : List Row} : ∀ {l : Int}, 0 ≤ l → szRows l rs ≤ l := by
  induction rs with
  | nil => intro l h0; rw [szRows]; omega
  | cons q rs ih =>
    intro l h0
    rw [szRows]
    split
    · omega
    · have := ih (l := l - q.n) (by omega); omega
theorem szMat_le {n : Nat} {rs : List Row} : szMat n rs ≤ 1048576 := by
  unfold szMat; split
  · omega
  · have := szRows_le (rs := rs) (l := 1048576 - n) (by omega); omega
theorem szMat_any (lo hi lo' hi' n c : Nat) (A : Option Addr) (rs : List Row) (w : World) (h : Mat w lo hi lo' hi' A n c rs) :
    Calls Try.prog 31 #[.slice A n c, .int .i64 1048576] w fun e w' => e = .returned (.int .i64 (szMat n rs)) ∧ w' = w :=
  szIntSS_any lo hi lo' hi' n c A rs 1048576 w h (by omega) (by omega)
theorem NewMat.rows {w w' : World} {xss : List (List Int)} {e : Ending} (h : NewMat w xss e w') : ∃ (A : Option Addr) (n : Nat) (rs : List Row), e = .returned (.slice A n n) ∧ Mat w' w.heap.size (w.heap.size + 1) (w.heap.size + 1) w'.heap.size A n n rs ∧
    (∀ r ∈ rs, Own w' (w.heap.size + 1) w'.heap.size r.A r.n r.c r.xs) ∧ rs.map Row.xs = xss ∧ Below w.heap.size w w' := by
  obtain ⟨n, rs, he, m, o, hx, b⟩ := h; exact ⟨_, n, rs, he, m, o, hx, b⟩
theorem Mat.rowlen {w : World} {lo hi lo' hi' n c : Nat} {A : Option Addr} {rs rs' : List Row} {w' : World} {l h l' h' n' c' : Nat} {A' : Option Addr} (m : Mat w lo hi lo' hi' A n c rs) (m' : Mat w' l h l' h' A' n' c' rs') (e : rs'.map Row.xs = rs.map Row.xs) (hr : ∀ r ∈ rs, r.n ≤ 1048576) (hn : n ≤ 1048576) :
    n' ≤ 1048576 ∧ ∀ r ∈ rs', r.n ≤ 1048576 := by
  have hl : rs'.length = rs.length := by have := congrArg List.length e; simpa using this
  refine ⟨by rw [← m'.length, hl, m.length]; exact hn, fun r hr' => ?_⟩
  have : r.xs ∈ rs.map Row.xs := e ▸ List.mem_map_of_mem hr'
  obtain ⟨q, hq, he⟩ := List.mem_map.1 this
  rw [← (m'.row r hr').length, ← he, (m.row q hq).length]; exact hr q hq
set_option maxHeartbeats 1000000 in
theorem walk_TasksValid (n c : Nat) (A : Option Addr) (rs : List Row) (w : World) (h : Mat w 0 w.heap.size 0 w.heap.size A n c rs) :
    Calls Try.prog 9 #[.slice A n c] w fun e w' => e = .returned (.bool true) ∧ Below w.heap.size w w' := by
  by_cases hs : szMat n rs < 0
  · go_enter Try.func9, Try.ntmps9
    go_wp2_with fail
    refine (szMat_any _ _ _ _ _ _ _ _ _ h).mono ?_
    rintro e w' ⟨rfl, rfl⟩
    clear h
    go_wp2
    go_ret
    exact ⟨rfl, Below.refl _ _⟩
  · have hs0 : 0 ≤ szMat n rs := by omega
    obtain ⟨hn, hr⟩ := szMat_all hs0
    have HR := Lib.hid hr
    clear hr hs
    go_enter Try.func9, Try.ntmps9
    go_wp2_with fail
    refine (szMat_any _ _ _ _ _ _ _ _ _ h).mono ?_
    rintro e w' ⟨rfl, rfl⟩
    go_wp2_with fail
    refine (toIntSS_any _ _ _ _ _ _ _ _ _ h hn HR.out).mono ?_
    intro e w1 hnew
    obtain ⟨A1, n1, rs1, rfl, m1, o1, e1, b1⟩ := hnew.rows
    have r1 := h.rowlen m1 e1 HR.out hn
    have E1 := Lib.hid e1
    have R1 := Lib.hid r1.2
    have L1 := r1.1
    have h1 := h.below b1
    clear hnew o1 e1 r1
    go_wp2_with fail
    refine (spec_TasksValid _ _ _ _ _ _ _ _ _ m1 L1 R1.out).mono ?_
    rintro e w' ⟨rfl, rfl⟩
    rw [E1.out]
    clear m1
    go_wp2_with fail
    refine (toIntSS_any _ _ _ _ _ _ _ _ _ h1 hn HR.out).mono ?_
    intro e w2 hnew
    obtain ⟨A2, n2, rs2, rfl, m2, o2, e2, b2⟩ := hnew.rows
    have r2 := h1.rowlen m2 e2 HR.out hn
    have E2 := Lib.hid e2
    have R2 := Lib.hid r2.2
    have L2 := r2.1
    have h2 := h1.below b2
    have B2 := below_step b1 b2
    clear hnew o2 e2 r2 h1
    go_wp2_with fail
    refine (impl_TasksValid _ _ _ _ _ _ _ _ _ m2 L2 R2.out).mono ?_
    rintro e w' ⟨rfl, rfl⟩
    rw [E2.out]
    go_wp2_with fail
    refine (toIntSS_any _ _ _ _ _ _ _ _ _ h2 hn HR.out).mono ?_
    intro e w3 hnew
    obtain ⟨A3, n3, rs3, rfl, m3, o3, e3, b3⟩ := hnew.rows
    have r3 := h2.rowlen m3 e3 HR.out hn
    have E3 := Lib.hid e3
    have R3 := Lib.hid r3.2
    have L3 := r3.1
    have m4 := m2.below b3
    have B3 := below_step B2 b3
    clear hnew o3 e3 r3 h2 m2
    go_wp2_with fail
    refine (eqIntSS_any _ _ _ _ _ _ _ _ _ _ _ _ _ _ _ _ _ m4 m3 L2 L3 R2.out R3.out).mono ?_
    rintro e w4 ⟨rfl, q, rfl⟩
    rw [show (rs2.map Row.xs == rs3.map Row.xs) = true by rw [E2.out, E3.out]; exact beq_self_eq_true _]
    clear m3 m4
    go_wp2
    go_ret
    exact ⟨rfl, below_drewN B3 _⟩
end Go.Proofs.Ytgcnhojiaaonmaa
