/-
  DrawShareCharge: some charge and some weights.
-/
import Derived.Test.YtgcnhojiaaonmaaDSt
import Derived.Test.YtgcnhojiaaonmaaFT
namespace Go.Proofs.Ytgcnhojiaaonmaa
open Go.RowKit
set_option linter.unusedVariables false
def DrewShare (w : World) (e : Ending) (w' : World) : Prop := ∃ (m : Int) (A : Option Addr) (n c : Nat) (xs : List Int), e = .returned (.tuple #[.int .i64 m, .slice A n c]) ∧ Own w' w.heap.size w'.heap.size A n c xs ∧ n ≤ 100 ∧ Below w.heap.size w w'
theorem make_zeros (n : Nat) (_hn : n ≤ 1048576) : ∀ w : World, (Instr.makeSlice 54 (.int .i64 (n : Int)) (.int .i64 (n : Int))).run Try.prog w = .ok (.slice (some ⟨w.heap.size, 0, none⟩) n n) (w.alloc (.cells (madeCells #[.int .i64 0] n) 3)) :=
  fun w => run_make_row' 54 3 (.int .i64 0) 8 Try.underlying54 info_int rfl .i64 .i64 n (by omega) (by omega) w
theorem drewShare_of {w w0 : World} {g : Nat} {A : Option Addr} {n c q k : Nat} {v : Value} {ys : List Value} {W : World} (h : DSt w0 g A n c q 3 1 v k ys W) {xs : List Int} (hx : ys = ints xs) (hk : k ≤ 100) (hb : Below w.heap.size w w0) (hl : w.heap.size ≤ g) {m : Int} :
    DrewShare w (.returned (.tuple #[.int .i64 m, v])) W := by
  subst hx
  obtain ⟨A1, c1, rfl, ho⟩ := own_of_row h.own
  exact ⟨m, _, _, _, xs, rfl, ho.wide hb.size (Nat.le_refl _), hk, h.bel hb hl⟩
set_option maxHeartbeats 2000000 in
theorem DrawShareCharge_any (A : Option Addr) (n c : Nat) (w : World) (h : Code w A n c) :
    Calls Try.prog 42 #[.slice A n c] w (DrewShare w) := by
  obtain ⟨i0, hi, hz0, hz1, hz2⟩ := info_parts info_int
  have HI := Lib.hid (And.intro hi (And.intro hz0 (And.intro hz1 hz2)))
  clear hi hz0 hz1 hz2
  go_enter Try.func42, Try.ntmps42
  go_wp2_with fail
  refine (open_any _ _ _ _ h).mono ?_
  rintro e w1 ⟨g, A1, n1, c1, rfl, r1, b1, g0⟩
  clear h
  have D1 := DSt.init 3 1 r1
  have gb := D1.hg
  have HB1 := Lib.hid b1
  clear r1 b1
  go_wp2_with fail
  refine (pick_any g 0 n1 c1 A1 _ _ D1.rd (by omega) (by omega) (by omega)).mono ?_
  rintro e w2 ⟨r, rfl, ⟨r0, r5⟩, hr, hg⟩
  have D2 := (D1.grown hr hg).wide (q' := 100 - 4 * r.toNat) (by omega)
  clear D1 hr hg
  obtain ⟨R, rfl⟩ := Int.eq_ofNat_of_zero_le r0
  have HD2 := Lib.hid D2
  clear D2
  go_wp2
  go_loopw [5, 6] (fun v i wr => ∃ (m k : Nat) (xs : List Int), i = .int .i64 m ∧ m + k ≤ 4 ∧ xs.length = k ∧ DSt w1 g A1 n1 c1 (100 - 4 * m) 3 1 v k (ints xs) wr) (fun _ i _ => (intOf i).toNat)
  case atStart => exact ⟨R, 0, [], rfl, by omega, rfl, HD2.out⟩
  case round =>
    obtain ⟨m, k, xs, rfl, hmk, hxk, D⟩ := hrel
    have HX := Lib.hid hxk
    clear hxk
    by_cases hlt : 0 < m
    · go_wp2_with fail
      refine (pick_any g _ n1 c1 A1 _ _ D.rd (by omega) (by omega) (by omega)).mono ?_
      rintro e w3 ⟨p1, rfl, ⟨p10, p11⟩, hr, hg⟩
      have D3 := D.grown hr hg
      clear D hr hg
      go_wp2_with fail
      refine (pick_any g _ n1 c1 A1 _ _ D3.rd (by omega) (by omega) (by omega)).mono ?_
      rintro e w4 ⟨p2, rfl, ⟨p20, p21⟩, hr, hg⟩
      have D4 := D3.grown hr hg
      clear D3 hr hg
      have z4 := D4.hb
      go_wp2_with fail
      refine (num_any g _ n1 c1 _ 0 3 3 A1 _ (D4.alloc _).rd (by omega) (by omega) (by omega) (by simp) (by omega) (num_lits (xs := [p1, p2, 1000]) (heap_alloc_new _ _) rfl)).mono ?_
      rintro e w5 ⟨p3, rfl, _, hr, hg⟩
      have D5 := (D4.alloc _).grown hr hg
      clear D4 hr hg
      have z5 := D5.hb
      have HD5 := Lib.hid D5
      obtain ⟨hi, hz0, hz1, hz2⟩ := HI.out
      have HH := Lib.hid hi
      clear hi D5
      go_wp2_with (at_builtin; refine wpList_append_own_at _ rfl _ _ 54 rfl w1.heap.size 3 i0 (.int .i64 0) 1 8 Try.underlying54 HH.out hz0 hz1 hz2 rfl (by decide) _ _ _ rfl ((HD5.out.alloc _).own) ⟨w5.heap.size, 0, none⟩ 1 1 [.int .i64 p3] rfl rfl (cell_one_new _ _ _) (by simp [Value.oneCell']) (by unfold maxLen; omega) (by omega) (by simp; omega) ?_; intro v' w6 hown6 hgr _ _)
      have D6 := ((HD5.out.alloc _).app hown6 hgr).wide (q' := 100 - 4 * (m - 1)) (by omega)
      have HD6 := Lib.hid D6
      clear D6 hown6 hgr hz0 hz1 hz2
      go_wp2
      go_roundw
      case rel => exact ⟨m - 1, k + 1, xs ++ [p3], by first | rfl | (have : ((m - 1 : Nat) : Int) = (m : Int) - 1 := by omega); rw [this], by omega, by simp [HX.out], by simpa [ints] using HD6.out⟩
      case measure => simp [intOf]; omega
    · have HD := Lib.hid D
      have em : m = 0 := by omega
      subst em
      clear D hlt
      go_wp2_with fail
      refine (pick_any g _ n1 c1 A1 _ _ HD.out.rd (by omega) (by omega) (by omega)).mono ?_
      rintro e w3 ⟨p1, rfl, ⟨p10, p11⟩, hr, hg⟩
      have D3 := HD.out.grown hr hg
      clear hr hg
      by_cases e0 : p1 = 0
      · subst e0
        clear p10 p11
        go_wp2_with fail
        refine (num_any g _ n1 c1 _ 0 3 3 A1 _ (D3.alloc _).rd (by omega) (by omega) (by omega) (by simp) (by have := D3.hb; omega) (num_lits (xs := [-1, 1001, 9223372036854775807]) (heap_alloc_new _ _) rfl)).mono ?_
        rintro e w5 ⟨p3, rfl, _, hr, hg⟩
        have D5 := (D3.alloc _).grown hr hg
        clear D3 hr hg
        have z5 := D5.hb
        have HD5 := Lib.hid D5
        obtain ⟨hi, hz0, hz1, hz2⟩ := HI.out
        have HH := Lib.hid hi
        clear hi D5
        go_wp2_with (at_builtin; refine wpList_append_own_at _ rfl _ _ 54 rfl w1.heap.size 3 i0 (.int .i64 0) 1 8 Try.underlying54 HH.out hz0 hz1 hz2 rfl (by decide) _ _ _ rfl ((HD5.out.alloc _).own) ⟨w5.heap.size, 0, none⟩ 1 1 [.int .i64 p3] rfl rfl (cell_one_new _ _ _) (by simp [Value.oneCell']) (by unfold maxLen; omega) (by omega) (by simp; omega) ?_; intro v' w6 hown6 hgr _ _)
        have D6 := (HD5.out.alloc _).app hown6 hgr
        have HD6 := Lib.hid D6
        clear D6 hown6 hgr hz0 hz1 hz2
        go_wp2_with fail
        refine (pick_any g _ n1 c1 A1 _ _ HD6.out.rd (by omega) (by omega) (by omega)).mono ?_
        rintro e x1 ⟨y1, rfl, _, hr, hg⟩
        have E1 := HD6.out.grown hr hg
        clear hr hg
        go_wp2_with fail
        refine (pick_any g _ n1 c1 A1 _ _ E1.rd (by omega) (by omega) (by omega)).mono ?_
        rintro e x2 ⟨y2, rfl, _, hr, hg⟩
        have E2 := E1.grown hr hg
        clear hr hg E1
        have z2 := E2.hb
        go_wp2_with fail
        refine (num_any g _ n1 c1 _ 0 6 6 A1 _ (E2.alloc _).rd (by omega) (by omega) (by omega) (by simp) (by omega) (num_lits (xs := [y1, 1000000, 0, 1000001, -1, y2]) (heap_alloc_new _ _) rfl)).mono ?_
        rintro e x3 ⟨y3, rfl, _, hr, hg⟩
        have E3 := (E2.alloc _).grown hr hg
        clear hr hg E2 z2
        go_wp2
        go_ret2
        exact drewShare_of E3 (xs := xs ++ [p3]) (by simp [ints]) (by omega) HB1.out g0
      by_cases e1 : p1 = 1
      · subst e1
        clear e0 p10 p11
        go_wp2_with fail
        refine (pick_any g _ n1 c1 A1 _ _ D3.rd (by omega) (by omega) (by omega)).mono ?_
        rintro e w4 ⟨p2, rfl, ⟨p20, p21⟩, hr, hg⟩
        have D4 := D3.grown hr hg
        clear D3 hr hg
        obtain ⟨P2, rfl⟩ := Int.eq_ofNat_of_zero_le p20
        have hmk := make_zeros (10 + P2) (by omega)
        rw [show ((10 + P2 : Nat) : Int) = 10 + (P2 : Int) by omega] at hmk
        have D5 := (D4.alloc (.cells ((madeCells #[.int .i64 0] (10 + P2)).setIfInBounds 0 (.int .i64 1)) 3)).fresh (World.ownsRow_lit (size := 1) (e := 3) w4 ((madeCells #[.int .i64 0] (10 + P2)).setIfInBounds 0 (.int .i64 1)) (10 + P2) D4.hb (by unfold maxLen; omega) (by simp [size_madeCells]))
        rw [Array.toList_setIfInBounds, toList_madeCells_one] at D5
        have hc0 : (w4.alloc (.cells (madeCells #[.int .i64 0] (10 + P2)) 3)).cell? ⟨w4.heap.size, 0, none⟩ = some (.int .i64 0) := by
          rw [blk_cell (heap_alloc_new _ _), ← Array.getElem?_toList, toList_madeCells_one, List.getElem?_replicate, if_pos (by omega)]
        have HD5 := Lib.hid D5
        clear D4 D5
        go_wp2_with fail
        refine (pick_any g _ n1 c1 A1 _ _ HD5.out.rd (by omega) (by omega) (by omega)).mono ?_
        rintro e x1 ⟨y1, rfl, _, hr, hg⟩
        have E1 := HD5.out.grown hr hg
        clear hr hg
        go_wp2_with fail
        refine (pick_any g _ n1 c1 A1 _ _ E1.rd (by omega) (by omega) (by omega)).mono ?_
        rintro e x2 ⟨y2, rfl, _, hr, hg⟩
        have E2 := E1.grown hr hg
        clear hr hg E1
        have z2 := E2.hb
        go_wp2_with fail
        refine (num_any g _ n1 c1 _ 0 6 6 A1 _ (E2.alloc _).rd (by omega) (by omega) (by omega) (by simp) (by omega) (num_lits (xs := [y1, 1000000, 0, 1000001, -1, y2]) (heap_alloc_new _ _) rfl)).mono ?_
        rintro e x3 ⟨y3, rfl, _, hr, hg⟩
        have E3 := (E2.alloc _).grown hr hg
        clear hr hg E2 z2
        go_wp2
        go_ret2
        exact drewShare_of E3 (xs := (List.replicate (10 + P2) 0).set 0 1) (by simp [ints, List.map_set]) (by omega) HB1.out g0
      · have n0 : (p1 == 0) = false := by simp; exact e0
        have n1' : (p1 == 1) = false := by simp; exact e1
        clear e0 e1
        have HD3 := Lib.hid D3
        clear D3
        go_wp2_with fail
        refine (pick_any g _ n1 c1 A1 _ _ HD3.out.rd (by omega) (by omega) (by omega)).mono ?_
        rintro e x1 ⟨y1, rfl, _, hr, hg⟩
        have E1 := HD3.out.grown hr hg
        clear hr hg
        go_wp2_with fail
        refine (pick_any g _ n1 c1 A1 _ _ E1.rd (by omega) (by omega) (by omega)).mono ?_
        rintro e x2 ⟨y2, rfl, _, hr, hg⟩
        have E2 := E1.grown hr hg
        clear hr hg E1
        have z2 := E2.hb
        go_wp2_with fail
        refine (num_any g _ n1 c1 _ 0 6 6 A1 _ (E2.alloc _).rd (by omega) (by omega) (by omega) (by simp) (by omega) (num_lits (xs := [y1, 1000000, 0, 1000001, -1, y2]) (heap_alloc_new _ _) rfl)).mono ?_
        rintro e x3 ⟨y3, rfl, _, hr, hg⟩
        have E3 := (E2.alloc _).grown hr hg
        clear hr hg E2 z2
        go_wp2
        go_ret2
        exact drewShare_of E3 rfl (by omega) HB1.out g0
end Go.Proofs.Ytgcnhojiaaonmaa
