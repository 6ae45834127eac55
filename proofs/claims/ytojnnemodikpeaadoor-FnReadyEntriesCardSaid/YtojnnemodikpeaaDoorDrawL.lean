/-
  Drawing rooms and deeds: of, l1Rooms.
-/
import Derived.Test.YtojnnemodikpeaaDoorDSt
import Derived.Test.YtojnnemodikpeaaDoorValid
import Derived.Test.YtojnnemodikpeaaDoorUni
import Derived.Deep.AppendLies
namespace Go.Proofs.YtojnnemodikpeaaDoor
open Go.RowKit
set_option linter.unusedVariables false
/-- An answer that is a text; at most q numbers are taken then; all else as it was. -/
def GotS (w : World) (g : Nat) (A : Option Addr) (n c q : Nat) (e : Ending) (w' : World) : Prop :=
  ∃ s : ByteArray, e = .returned (.string s) ∧ Rd w' g A n c q ∧ w.grownBy w' (some g)
set_option maxHeartbeats 2000000 in
theorem of_any (g q n c l lo k kc : Nat) (A : Option Addr) (w : World) (h : Rd w g A n c q) (hq : q + 1 < 1000000000) (hk : 0 < k) (hk2 : k ≤ 1000000) (hl : l < w.heap.size) (hlg : l ≠ g)
    (hc : ∀ j, j < k → ∃ v : ByteArray, w.cell? ⟨l, lo + j, none⟩ = some (.string v)) :
    Calls Tryd.prog 101 #[.pointer (some ⟨g, 0, none⟩), .slice (some ⟨l, lo, none⟩) k kc] w (GotS w g A n c (q + 1)) := by
  have H := Lib.hid hc
  clear hc
  go_enter Tryd.func101, Tryd.ntmps101
  go_wp2_with fail
  refine (pick_any g q n c A _ _ h hq (by omega) (by omega)).mono ?_
  rintro e w1 ⟨r, rfl, ⟨r0, r1⟩, hr, hg⟩
  obtain ⟨v, hv⟩ := H.out r.toNat (by omega)
  have hv1 := (gb_cell hg hl hlg).trans hv
  clear hv
  go_wp2
  go_ret
  exact ⟨v, rfl, hr, hg⟩
theorem of_lits {w : World} {l : Nat} {xs : List ByteArray} {T : TypeId} {fz : Nat × Nat} (h : w.heap[l]? = some (.cells (xs.map Value.string).toArray T fz)) {k : Nat} (hk : xs.length = k) :
    ∀ j, j < k → ∃ v : ByteArray, w.cell? ⟨l, 0 + j, none⟩ = some (.string v) := fun j hj => ⟨xs[j]'(by omega), by rw [Nat.zero_add, blk_cell h]; simp [hk, hj]⟩
/-- A new slice of numbers, the source some steps on, all else as it was. -/
def GotInts (w : World) (g : Nat) (A : Option Addr) (n c q : Nat) (e : Ending) (w' : World) : Prop :=
  ∃ (A' : Option Addr) (n' c' : Nat) (xs : List Int), e = .returned (.slice A' n' c') ∧ OwnV 3 1 w' w.heap.size w'.heap.size A' n' c' (ints xs) ∧ n' ≤ 10 ∧ Rd w' g A n c q ∧ w.grownBy w' (some g)
theorem ints_of_len {vs : List Value} {xs : List Int} (h : vs = ints xs) : vs = ints xs := h
theorem gotInts_of {w : World} {g : Nat} {A : Option Addr} {n c q q' k : Nat} {v : Value} {xs : List Int} {W : World} (h : DSt w g A n c q 3 1 v k (ints xs) W) (hk : k ≤ 10) (hq : q ≤ q') : GotInts w g A n c q' (.returned v) W := by
  obtain ⟨A1, c1, rfl, ho⟩ := ownV_of_row h.own (by decide)
  exact ⟨A1, k, c1, xs, rfl, ho, hk, h.rd.mono hq, h.gr⟩
set_option maxHeartbeats 4000000 in
set_option maxRecDepth 20000 in
theorem l1Rooms_any (g q n c : Nat) (A : Option Addr) (w : World) (h : Rd w g A n c q) (hq : q < 900000000) :
    Calls Tryd.prog 88 #[.pointer (some ⟨g, 0, none⟩)] w (GotInts w g A n c (q + 20)) := by
  obtain ⟨i0, hi, hz0, hz1, hz2⟩ := info_parts info_int
  have HI := Lib.hid (And.intro hi (And.intro hz0 (And.intro hz1 hz2)))
  clear hi hz0 hz1 hz2
  have D1 := DSt.init 3 1 h
  have gb := D1.hg
  clear h
  go_enter Tryd.func88, Tryd.ntmps88
  go_wp2_with fail
  refine (pick_any g _ n c A _ _ D1.rd (by omega) (by omega) (by omega)).mono ?_
  rintro e w2 ⟨r, rfl, ⟨r0, r5⟩, hr, hg⟩
  have D2 := (D1.grown hr hg).wide (q' := q + 10 - 2 * (1 + r.toNat)) (by omega)
  clear D1 hr hg
  obtain ⟨R, rfl⟩ := Int.eq_ofNat_of_zero_le r0
  have HD2 := Lib.hid D2
  clear D2
  go_wp2
  go_loopw [3, 4] (fun v i wr => ∃ (m k : Nat) (xs : List Int), i = .int .i64 m ∧ m + k ≤ 3 ∧ xs.length = k ∧ DSt w g A n c (q + 10 - 2 * m) 3 1 v k (ints xs) wr) (fun _ i _ => (intOf i).toNat)
  case atStart => exact ⟨1 + R, 0, [], by first | rfl | (congr 1; omega), by omega, rfl, HD2.out⟩
  case round =>
    obtain ⟨m, k, xs, rfl, hmk, hxk, D⟩ := hrel
    have HX := Lib.hid hxk
    clear hxk
    by_cases hlt : 0 < m
    · have z4 := D.hb
      go_wp2_with fail
      refine (num_any g _ n c _ 0 5 5 A _ (D.alloc _).rd (by omega) (by omega) (by omega) (by simp) (by omega) (num_lits (xs := [1, 2, 0, 3, 8]) (heap_alloc_new _ _) rfl)).mono ?_
      rintro e w5 ⟨p3, rfl, _, hr, hg⟩
      have D5 := (D.alloc _).grown hr hg
      clear D hr hg
      have z5 := D5.hb
      have HD5 := Lib.hid D5
      obtain ⟨hi, hz0, hz1, hz2⟩ := HI.out
      have HH := Lib.hid hi
      clear hi D5
      go_wp2_with (at_builtin; refine wpList_append_own_at _ rfl _ _ 22 rfl w.heap.size 3 i0 (.int .i64 0) 1 8 Tryd.underlying22 HH.out hz0 hz1 hz2 rfl (by decide) _ _ _ rfl ((HD5.out.alloc _).own) ⟨w5.heap.size, 0, none⟩ 1 1 [.int .i64 p3] rfl rfl (cell_one_new _ _ _) (by simp [Value.oneCell']) (by unfold maxLen; omega) (by omega) (by simp; omega) ?_; intro v' w6 hown6 hgr _ _)
      have D6 := ((HD5.out.alloc _).app hown6 hgr).wide (q' := q + 10 - 2 * (m - 1)) (by omega)
      have HD6 := Lib.hid D6
      clear D6 hown6 hgr hz0 hz1 hz2
      go_wp2
      go_roundw
      case rel => exact ⟨m - 1, k + 1, xs ++ [p3], int_pred hlt, by omega, by simp [HX.out], by simpa [ints] using HD6.out⟩
      case measure => simp [intOf]; omega
    · have em : m = 0 := by omega
      subst em
      have HDD := Lib.hid D
      clear D hlt
      go_wp2_with fail
      refine (pick_any g _ n c A _ _ HDD.out.rd (by omega) (by omega) (by omega)).mono ?_
      rintro e w3 ⟨p1, rfl, ⟨p10, p11⟩, hr, hg⟩
      have D3 := HDD.out.grown hr hg
      clear hr hg
      have z3 := D3.hb
      obtain ⟨hi, hz0, hz1, hz2⟩ := HI.out
      have HH := Lib.hid hi
      clear hi
      have HD3 := Lib.hid D3
      by_cases e0 : p1 = 0
      · subst e0
        clear D3 p10 p11 hz0 hz1 hz2
        go_wp2
        go_ret
        exact gotInts_of (xs := []) ((HD3.out.alloc _).fresh (World.ownsRow_made w3 #[] 0 (by have := HD3.out.hb; omega) (Nat.zero_le _) (by simp))) (by omega) (by omega)
      by_cases e1 : p1 = 1
      · subst e1
        clear e0 p10 p11
        go_wp2_with fail
        refine (num_any g _ n c _ 0 3 3 A _ (D3.alloc _).rd (by omega) (by omega) (by omega) (by simp) (by omega) (num_lits (xs := [9, -1, 9223372036854775807]) (heap_alloc_new _ _) rfl)).mono ?_
        rintro e w5 ⟨p3, rfl, _, hr, hg⟩
        have D5 := (D3.alloc _).grown hr hg
        clear hr hg D3
        have z5 := D5.hb
        have HD5 := Lib.hid D5
        clear D5
        go_wp2_with (at_builtin; refine wpList_append_own_at _ rfl _ _ 22 rfl w.heap.size 3 i0 (.int .i64 0) 1 8 Tryd.underlying22 HH.out hz0 hz1 hz2 rfl (by decide) _ _ _ rfl ((HD5.out.alloc _).own) ⟨w5.heap.size, 0, none⟩ 1 1 [.int .i64 p3] rfl rfl (cell_one_new _ _ _) (by simp [Value.oneCell']) (by unfold maxLen; omega) (by omega) (by simp; omega) ?_; intro v' w6 hown6 hgr _ _; have HO6 := Lib.hid (And.intro hown6 hgr); clear hown6 hgr)
        go_ret
        exact gotInts_of (xs := xs ++ [p3]) ((HD5.out.alloc _).app (by simpa [ints] using HO6.out.1) HO6.out.2) (by omega) (by omega)
      by_cases e2 : p1 = 2
      · subst e2
        clear e0 e1 p10 p11 D3
        go_wp2_with (at_builtin; go_loud (refine wpList_append_own_at _ rfl _ _ 22 rfl w.heap.size 3 i0 (.int .i64 0) 1 8 Tryd.underlying22 HH.out hz0 hz1 hz2 rfl (by decide) _ _ _ rfl ((HD3.out.alloc _).own) ⟨w3.heap.size, 0, none⟩ 6 6 [.int .i64 1, .int .i64 1, .int .i64 1, .int .i64 1, .int .i64 1, .int .i64 1] rfl rfl (by exact World.news_of_block (cs := #[.int .i64 1, .int .i64 1, .int .i64 1, .int .i64 1, .int .i64 1, .int .i64 1]) (heap_alloc_new _ _)) (by simp [Value.oneCell']) (by unfold maxLen; omega) (by omega) (by simp; omega) ?_; intro v' w6 hown6 hgr _ _; have HO6 := Lib.hid (And.intro hown6 hgr); clear hown6 hgr))
        go_ret
        exact gotInts_of (xs := xs ++ [1, 1, 1, 1, 1, 1]) ((HD3.out.alloc _).app (by simpa [ints] using HO6.out.1) HO6.out.2) (by omega) (by omega)
      · clear D3 hz0 hz1 hz2
        go_wp2
        go_ret
        exact gotInts_of (xs := xs) HD3.out (by omega) (by omega)
end Go.Proofs.YtojnnemodikpeaaDoor
