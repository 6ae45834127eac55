/-
  The walks of five laws: TariffValid, KeeperValid, ChargeOf, RecordValid, TalkMinutes answer as the reference does.
-/
import Derived.Test.YtgcnhojiaaonmaaOne
namespace Go.Proofs.Ytgcnhojiaaonmaa
open Go.RowKit
set_option maxHeartbeats 1000000 in
theorem spec_ChargeOf (f s p m : Int) (w : World) :
    Calls Try.prog 22 #[.agg #[.int .i64 f, .int .i64 s, .int .i64 p], .int .i64 m] w fun e w' => e = .returned (.int .i64 (chargeOfF f s p m)) ∧ Below w.heap.size w w' := by
  by_cases hT : tariffB f s p = true
  · by_cases hm : inB m 0 3600 = true
    · have hm2 : 0 ≤ m ∧ m ≤ 3600 := by simpa [inB] using hm
      have HF := Lib.hid (show chargeOfF f s p m = chargeF f s p m by rw [chargeOfF, if_pos ⟨hT, hm2⟩])
      have HT := Lib.hid hT
      obtain ⟨m0, m1⟩ := hm2
      go_enter Try.func22, Try.ntmps22
      go_wp2_with fail
      refine (spec_TariffValid _ _ _ _).mono ?_
      rintro e w1 ⟨rfl, hb1⟩
      obtain ⟨k0_1, z0_1⟩ := blk_below hb1 (by first | exact heap_alloc_new _ _ | exact blk_alloc (heap_alloc_new _ _) _ | exact blk_alloc (blk_alloc (heap_alloc_new _ _) _) _)
      have c0_1 := blk_cell k0_1
      have B1 := below_step (w := w) (by first | exact Below.refl _ _ | exact below_al (Below.refl _ _) _ | exact below_al (below_al (Below.refl _ _) _) _ | exact below_al (below_al (below_al (Below.refl _ _) _) _) _ | exact below_al (below_al (below_al (below_al (Below.refl _ _) _) _) _) _ | exact below_al (below_al (below_al (below_al (below_al (Below.refl _ _) _) _) _) _) _) hb1
      clear hb1
      go_wp2_with fail
      refine (l1In_any _ _ _ _).mono ?_
      rintro e w1 ⟨rfl, rfl⟩
      go_wp2_with fail
      refine (spec_l8Charge _ _ _ _ _ HT.out m0 m1).mono ?_
      rintro e w2 ⟨rfl, hb2⟩
      obtain ⟨k0_2, z0_2⟩ := blk_below hb2 (by first | exact k0_1 | exact blk_alloc (k0_1) _ | exact blk_alloc (blk_alloc (k0_1) _) _ | exact blk_alloc (blk_alloc (blk_alloc (k0_1) _) _) _ | exact blk_alloc (blk_alloc (blk_alloc (blk_alloc (k0_1) _) _) _) _)
      have c0_2 := blk_cell k0_2
      have B2 := below_step (w := w) (by first | exact B1 | exact below_al (B1) _ | exact below_al (below_al (B1) _) _ | exact below_al (below_al (below_al (B1) _) _) _ | exact below_al (below_al (below_al (below_al (B1) _) _) _) _ | exact below_al (below_al (below_al (below_al (below_al (B1) _) _) _) _) _) hb2
      clear hb2 B1 k0_1 c0_1 z0_1
      go_wp2
      go_ret
      exact ⟨ret_int HF.out.symm, B2⟩
    · have HF := Lib.hid (show chargeOfF f s p m = -1 by rw [chargeOfF, if_neg (fun x => hm (by simpa [inB] using x.2))])
      have hm' : inB m 0 3600 = false := by simpa using hm
      clear hm
      go_enter Try.func22, Try.ntmps22
      go_wp2_with fail
      refine (spec_TariffValid _ _ _ _).mono ?_
      rintro e w1 ⟨rfl, hb1⟩
      obtain ⟨k0_1, z0_1⟩ := blk_below hb1 (by first | exact heap_alloc_new _ _ | exact blk_alloc (heap_alloc_new _ _) _ | exact blk_alloc (blk_alloc (heap_alloc_new _ _) _) _)
      have c0_1 := blk_cell k0_1
      have B1 := below_step (w := w) (by first | exact Below.refl _ _ | exact below_al (Below.refl _ _) _ | exact below_al (below_al (Below.refl _ _) _) _ | exact below_al (below_al (below_al (Below.refl _ _) _) _) _ | exact below_al (below_al (below_al (below_al (Below.refl _ _) _) _) _) _ | exact below_al (below_al (below_al (below_al (below_al (Below.refl _ _) _) _) _) _) _) hb1
      clear hb1
      go_wp2_with fail
      refine (l1In_any _ _ _ _).mono ?_
      rintro e w1 ⟨rfl, rfl⟩
      go_wp2
      go_ret
      exact ⟨ret_int HF.out.symm, B1⟩
  · have HF := Lib.hid (show chargeOfF f s p m = -1 by rw [chargeOfF, if_neg (fun x => hT x.1)])
    have hT' : tariffB f s p = false := by simpa using hT
    clear hT
    go_enter Try.func22, Try.ntmps22
    go_wp2_with fail
    refine (spec_TariffValid _ _ _ _).mono ?_
    rintro e w1 ⟨rfl, hb1⟩
    obtain ⟨k0_1, z0_1⟩ := blk_below hb1 (by first | exact heap_alloc_new _ _ | exact blk_alloc (heap_alloc_new _ _) _ | exact blk_alloc (blk_alloc (heap_alloc_new _ _) _) _)
    have c0_1 := blk_cell k0_1
    have B1 := below_step (w := w) (by first | exact Below.refl _ _ | exact below_al (Below.refl _ _) _ | exact below_al (below_al (Below.refl _ _) _) _ | exact below_al (below_al (below_al (Below.refl _ _) _) _) _ | exact below_al (below_al (below_al (below_al (Below.refl _ _) _) _) _) _ | exact below_al (below_al (below_al (below_al (below_al (Below.refl _ _) _) _) _) _) _) hb1
    clear hb1
    go_wp2
    go_ret
    exact ⟨ret_int HF.out.symm, B1⟩
set_option maxHeartbeats 1000000 in
theorem toTariff_any (f s p : Int) (w : World) :
    Calls Try.prog 16 #[.agg #[.int .i64 f, .int .i64 s, .int .i64 p]] w fun e w' => e = .returned (.agg #[.int .i64 f, .int .i64 s, .int .i64 p]) ∧ Below w.heap.size w w' := by
  go_enter Try.func16, Try.ntmps16
  go_wp2
  refine bodyPost_ret (v := .agg #[.int .i64 f, .int .i64 s, .int .i64 p]) (by simp [results, Try.results16, go_sem]) rfl ⟨rfl, ?_⟩
  exact below_al (below_al (below_al (Below.refl _ _) _) _) _
set_option maxHeartbeats 1000000 in
theorem toRecord_any (c l o f h t : Int) (r : ByteArray) (w : World) :
    Calls Try.prog 26 #[.agg #[.int .i64 c, .int .i64 l, .int .i64 o, .int .i64 f, .int .i64 h, .int .i64 t, .string r]] w fun e w' => e = .returned (.agg #[.int .i64 c, .int .i64 l, .int .i64 o, .int .i64 f, .int .i64 h, .int .i64 t, .string r]) ∧ Below w.heap.size w w' := by
  go_enter Try.func26, Try.ntmps26
  go_wp2
  refine bodyPost_ret (v := .agg #[.int .i64 c, .int .i64 l, .int .i64 o, .int .i64 f, .int .i64 h, .int .i64 t, .string r]) (by simp [results, Try.results26, go_sem]) rfl ⟨rfl, ?_⟩
  exact below_al (below_al (below_al (Below.refl _ _) _) _) _
set_option maxHeartbeats 1000000 in
theorem szRecord_any (c l o f h t : Int) (r : ByteArray) (n : Int) (w : World) (h0 : 0 ≤ n) (h1 : n ≤ 1048576) (hr : r.size ≤ maxLen) :
    Calls Try.prog 24 #[.agg #[.int .i64 c, .int .i64 l, .int .i64 o, .int .i64 f, .int .i64 h, .int .i64 t, .string r], .int .i64 n] w fun e w' => e = .returned (.int .i64 (if n < r.size then -1 else n - r.size)) ∧ Below w.heap.size w w' := by
  unfold maxLen at hr
  by_cases hn : n < r.size
  · have hx : n - r.size < 0 := by omega
    go_enter Try.func24, Try.ntmps24
    go_wp2
    go_ret
    exact ⟨rfl, below_al (Below.refl _ _) _⟩
  · have hx : 0 ≤ n - r.size := by omega
    go_enter Try.func24, Try.ntmps24
    go_wp2
    go_ret
    exact ⟨rfl, below_al (Below.refl _ _) _⟩
set_option maxHeartbeats 1000000 in
theorem walk_TariffValid (f s p : Int) (w : World) :
    Calls Try.prog 3 #[.agg #[.int .i64 f, .int .i64 s, .int .i64 p]] w fun e w' => e = .returned (.bool true) ∧ Below w.heap.size w w' := by
  go_enter Try.func3, Try.ntmps3
  go_wp2_with fail
  refine (toTariff_any _ _ _ _).mono ?_
  rintro e w1 ⟨rfl, hb1⟩
  obtain ⟨k0_1, z0_1⟩ := blk_below hb1 (by first | exact heap_alloc_new _ _ | exact blk_alloc (heap_alloc_new _ _) _ | exact blk_alloc (blk_alloc (heap_alloc_new _ _) _) _)
  have c0_1 := blk_cell k0_1
  have B1 := below_step (w := w) (by first | exact Below.refl _ _ | exact below_al (Below.refl _ _) _ | exact below_al (below_al (Below.refl _ _) _) _ | exact below_al (below_al (below_al (Below.refl _ _) _) _) _ | exact below_al (below_al (below_al (below_al (Below.refl _ _) _) _) _) _ | exact below_al (below_al (below_al (below_al (below_al (Below.refl _ _) _) _) _) _) _) hb1
  clear hb1
  go_wp2_with fail
  refine (spec_TariffValid _ _ _ _).mono ?_
  rintro e w2 ⟨rfl, hb2⟩
  obtain ⟨k0_2, z0_2⟩ := blk_below hb2 (by first | exact k0_1 | exact blk_alloc (k0_1) _ | exact blk_alloc (blk_alloc (k0_1) _) _ | exact blk_alloc (blk_alloc (blk_alloc (k0_1) _) _) _ | exact blk_alloc (blk_alloc (blk_alloc (blk_alloc (k0_1) _) _) _) _)
  have c0_2 := blk_cell k0_2
  have B2 := below_step (w := w) (by first | exact B1 | exact below_al (B1) _ | exact below_al (below_al (B1) _) _ | exact below_al (below_al (below_al (B1) _) _) _ | exact below_al (below_al (below_al (below_al (B1) _) _) _) _ | exact below_al (below_al (below_al (below_al (below_al (B1) _) _) _) _) _) hb2
  clear hb2 B1 k0_1 c0_1 z0_1
  go_wp2_with fail
  refine (toTariff_any _ _ _ _).mono ?_
  rintro e w3 ⟨rfl, hb3⟩
  obtain ⟨k0_3, z0_3⟩ := blk_below hb3 (by first | exact k0_2 | exact blk_alloc (k0_2) _ | exact blk_alloc (blk_alloc (k0_2) _) _ | exact blk_alloc (blk_alloc (blk_alloc (k0_2) _) _) _ | exact blk_alloc (blk_alloc (blk_alloc (blk_alloc (k0_2) _) _) _) _)
  have c0_3 := blk_cell k0_3
  have B3 := below_step (w := w) (by first | exact B2 | exact below_al (B2) _ | exact below_al (below_al (B2) _) _ | exact below_al (below_al (below_al (B2) _) _) _ | exact below_al (below_al (below_al (below_al (B2) _) _) _) _ | exact below_al (below_al (below_al (below_al (below_al (B2) _) _) _) _) _) hb3
  clear hb3 B2 k0_2 c0_2 z0_2
  go_wp2_with fail
  refine (impl_TariffValid _ _ _ _).mono ?_
  rintro e w4 ⟨rfl, hb4⟩
  obtain ⟨k0_4, z0_4⟩ := blk_below hb4 (by first | exact k0_3 | exact blk_alloc (k0_3) _ | exact blk_alloc (blk_alloc (k0_3) _) _ | exact blk_alloc (blk_alloc (blk_alloc (k0_3) _) _) _ | exact blk_alloc (blk_alloc (blk_alloc (blk_alloc (k0_3) _) _) _) _)
  have c0_4 := blk_cell k0_4
  have B4 := below_step (w := w) (by first | exact B3 | exact below_al (B3) _ | exact below_al (below_al (B3) _) _ | exact below_al (below_al (below_al (B3) _) _) _ | exact below_al (below_al (below_al (below_al (B3) _) _) _) _ | exact below_al (below_al (below_al (below_al (below_al (B3) _) _) _) _) _) hb4
  clear hb4 B3 k0_3 c0_3 z0_3
  go_wp2
  go_ret
  exact ⟨rfl, B4⟩
set_option maxHeartbeats 1000000 in
theorem walk_ChargeOf (f s p m : Int) (w : World) :
    Calls Try.prog 5 #[.agg #[.int .i64 f, .int .i64 s, .int .i64 p], .int .i64 m] w fun e w' => e = .returned (.bool true) ∧ Below w.heap.size w w' := by
  go_enter Try.func5, Try.ntmps5
  go_wp2_with fail
  refine (toTariff_any _ _ _ _).mono ?_
  rintro e w1 ⟨rfl, hb1⟩
  obtain ⟨k0_1, z0_1⟩ := blk_below hb1 (by first | exact heap_alloc_new _ _ | exact blk_alloc (heap_alloc_new _ _) _ | exact blk_alloc (blk_alloc (heap_alloc_new _ _) _) _)
  have c0_1 := blk_cell k0_1
  have B1 := below_step (w := w) (by first | exact Below.refl _ _ | exact below_al (Below.refl _ _) _ | exact below_al (below_al (Below.refl _ _) _) _ | exact below_al (below_al (below_al (Below.refl _ _) _) _) _ | exact below_al (below_al (below_al (below_al (Below.refl _ _) _) _) _) _ | exact below_al (below_al (below_al (below_al (below_al (Below.refl _ _) _) _) _) _) _) hb1
  clear hb1
  go_wp2_with fail
  refine (spec_ChargeOf _ _ _ _ _).mono ?_
  rintro e w2 ⟨rfl, hb2⟩
  obtain ⟨k0_2, z0_2⟩ := blk_below hb2 (by first | exact k0_1 | exact blk_alloc (k0_1) _ | exact blk_alloc (blk_alloc (k0_1) _) _ | exact blk_alloc (blk_alloc (blk_alloc (k0_1) _) _) _ | exact blk_alloc (blk_alloc (blk_alloc (blk_alloc (k0_1) _) _) _) _)
  have c0_2 := blk_cell k0_2
  have B2 := below_step (w := w) (by first | exact B1 | exact below_al (B1) _ | exact below_al (below_al (B1) _) _ | exact below_al (below_al (below_al (B1) _) _) _ | exact below_al (below_al (below_al (below_al (B1) _) _) _) _ | exact below_al (below_al (below_al (below_al (below_al (B1) _) _) _) _) _) hb2
  clear hb2 B1 k0_1 c0_1 z0_1
  go_wp2_with fail
  refine (toTariff_any _ _ _ _).mono ?_
  rintro e w3 ⟨rfl, hb3⟩
  obtain ⟨k0_3, z0_3⟩ := blk_below hb3 (by first | exact k0_2 | exact blk_alloc (k0_2) _ | exact blk_alloc (blk_alloc (k0_2) _) _ | exact blk_alloc (blk_alloc (blk_alloc (k0_2) _) _) _ | exact blk_alloc (blk_alloc (blk_alloc (blk_alloc (k0_2) _) _) _) _)
  have c0_3 := blk_cell k0_3
  have B3 := below_step (w := w) (by first | exact B2 | exact below_al (B2) _ | exact below_al (below_al (B2) _) _ | exact below_al (below_al (below_al (B2) _) _) _ | exact below_al (below_al (below_al (below_al (B2) _) _) _) _ | exact below_al (below_al (below_al (below_al (below_al (B2) _) _) _) _) _) hb3
  clear hb3 B2 k0_2 c0_2 z0_2
  go_wp2_with fail
  refine (impl_ChargeOf _ _ _ _ _).mono ?_
  rintro e w4 ⟨rfl, hb4⟩
  obtain ⟨k0_4, z0_4⟩ := blk_below hb4 (by first | exact k0_3 | exact blk_alloc (k0_3) _ | exact blk_alloc (blk_alloc (k0_3) _) _ | exact blk_alloc (blk_alloc (blk_alloc (k0_3) _) _) _ | exact blk_alloc (blk_alloc (blk_alloc (blk_alloc (k0_3) _) _) _) _)
  have c0_4 := blk_cell k0_4
  have B4 := below_step (w := w) (by first | exact B3 | exact below_al (B3) _ | exact below_al (below_al (B3) _) _ | exact below_al (below_al (below_al (B3) _) _) _ | exact below_al (below_al (below_al (below_al (B3) _) _) _) _ | exact below_al (below_al (below_al (below_al (below_al (B3) _) _) _) _) _) hb4
  clear hb4 B3 k0_3 c0_3 z0_3
  go_wp2
  go_ret
  exact ⟨rfl, B4⟩
set_option maxHeartbeats 1000000 in
theorem walk_RecordValid (c l o f h t : Int) (r : ByteArray) (w : World) (hr : r.size ≤ maxLen) :
    Calls Try.prog 6 #[.agg #[.int .i64 c, .int .i64 l, .int .i64 o, .int .i64 f, .int .i64 h, .int .i64 t, .string r]] w fun e w' => e = .returned (.bool true) ∧ Below w.heap.size w w' := by
  by_cases hn : (1048576 : Int) < r.size
  · go_enter Try.func6, Try.ntmps6
    go_wp2_with fail
    refine (szRecord_any _ _ _ _ _ _ _ _ _ (by omega) (by omega) hr).mono ?_
    rintro e w1 ⟨rfl, hb1⟩
    obtain ⟨k0_1, z0_1⟩ := blk_below hb1 (by first | exact heap_alloc_new _ _ | exact blk_alloc (heap_alloc_new _ _) _ | exact blk_alloc (blk_alloc (heap_alloc_new _ _) _) _)
    have c0_1 := blk_cell k0_1
    have B1 := below_step (w := w) (by first | exact Below.refl _ _ | exact below_al (Below.refl _ _) _ | exact below_al (below_al (Below.refl _ _) _) _ | exact below_al (below_al (below_al (Below.refl _ _) _) _) _ | exact below_al (below_al (below_al (below_al (Below.refl _ _) _) _) _) _ | exact below_al (below_al (below_al (below_al (below_al (Below.refl _ _) _) _) _) _) _) hb1
    clear hb1
    rw [if_pos hn]
    go_wp2
    go_ret
    exact ⟨rfl, B1⟩
  · have hx : (0 : Int) ≤ 1048576 - r.size := by omega
    go_enter Try.func6, Try.ntmps6
    go_wp2_with fail
    refine (szRecord_any _ _ _ _ _ _ _ _ _ (by omega) (by omega) hr).mono ?_
    rintro e w1 ⟨rfl, hb1⟩
    obtain ⟨k0_1, z0_1⟩ := blk_below hb1 (by first | exact heap_alloc_new _ _ | exact blk_alloc (heap_alloc_new _ _) _ | exact blk_alloc (blk_alloc (heap_alloc_new _ _) _) _)
    have c0_1 := blk_cell k0_1
    have B1 := below_step (w := w) (by first | exact Below.refl _ _ | exact below_al (Below.refl _ _) _ | exact below_al (below_al (Below.refl _ _) _) _ | exact below_al (below_al (below_al (Below.refl _ _) _) _) _ | exact below_al (below_al (below_al (below_al (Below.refl _ _) _) _) _) _ | exact below_al (below_al (below_al (below_al (below_al (Below.refl _ _) _) _) _) _) _) hb1
    clear hb1
    rw [if_neg (by omega)]
    go_wp2_with fail
    refine (toRecord_any _ _ _ _ _ _ _ _).mono ?_
    rintro e w2 ⟨rfl, hb2⟩
    obtain ⟨k0_2, z0_2⟩ := blk_below hb2 (by first | exact k0_1 | exact blk_alloc (k0_1) _ | exact blk_alloc (blk_alloc (k0_1) _) _ | exact blk_alloc (blk_alloc (blk_alloc (k0_1) _) _) _ | exact blk_alloc (blk_alloc (blk_alloc (blk_alloc (k0_1) _) _) _) _)
    have c0_2 := blk_cell k0_2
    have B2 := below_step (w := w) (by first | exact B1 | exact below_al (B1) _ | exact below_al (below_al (B1) _) _ | exact below_al (below_al (below_al (B1) _) _) _ | exact below_al (below_al (below_al (below_al (B1) _) _) _) _ | exact below_al (below_al (below_al (below_al (below_al (B1) _) _) _) _) _) hb2
    clear hb2 B1 k0_1 c0_1 z0_1
    go_wp2_with fail
    refine (spec_RecordValid _ _ _ _ _ _ _ _).mono ?_
    rintro e w3 ⟨rfl, hb3⟩
    obtain ⟨k0_3, z0_3⟩ := blk_below hb3 (by first | exact k0_2 | exact blk_alloc (k0_2) _ | exact blk_alloc (blk_alloc (k0_2) _) _ | exact blk_alloc (blk_alloc (blk_alloc (k0_2) _) _) _ | exact blk_alloc (blk_alloc (blk_alloc (blk_alloc (k0_2) _) _) _) _)
    have c0_3 := blk_cell k0_3
    have B3 := below_step (w := w) (by first | exact B2 | exact below_al (B2) _ | exact below_al (below_al (B2) _) _ | exact below_al (below_al (below_al (B2) _) _) _ | exact below_al (below_al (below_al (below_al (B2) _) _) _) _ | exact below_al (below_al (below_al (below_al (below_al (B2) _) _) _) _) _) hb3
    clear hb3 B2 k0_2 c0_2 z0_2
    go_wp2_with fail
    refine (toRecord_any _ _ _ _ _ _ _ _).mono ?_
    rintro e w4 ⟨rfl, hb4⟩
    obtain ⟨k0_4, z0_4⟩ := blk_below hb4 (by first | exact k0_3 | exact blk_alloc (k0_3) _ | exact blk_alloc (blk_alloc (k0_3) _) _ | exact blk_alloc (blk_alloc (blk_alloc (k0_3) _) _) _ | exact blk_alloc (blk_alloc (blk_alloc (blk_alloc (k0_3) _) _) _) _)
    have c0_4 := blk_cell k0_4
    have B4 := below_step (w := w) (by first | exact B3 | exact below_al (B3) _ | exact below_al (below_al (B3) _) _ | exact below_al (below_al (below_al (B3) _) _) _ | exact below_al (below_al (below_al (below_al (B3) _) _) _) _ | exact below_al (below_al (below_al (below_al (below_al (B3) _) _) _) _) _) hb4
    clear hb4 B3 k0_3 c0_3 z0_3
    go_wp2_with fail
    refine (impl_RecordValid _ _ _ _ _ _ _ _).mono ?_
    rintro e w5 ⟨rfl, hb5⟩
    obtain ⟨k0_5, z0_5⟩ := blk_below hb5 (by first | exact k0_4 | exact blk_alloc (k0_4) _ | exact blk_alloc (blk_alloc (k0_4) _) _ | exact blk_alloc (blk_alloc (blk_alloc (k0_4) _) _) _ | exact blk_alloc (blk_alloc (blk_alloc (blk_alloc (k0_4) _) _) _) _)
    have c0_5 := blk_cell k0_5
    have B5 := below_step (w := w) (by first | exact B4 | exact below_al (B4) _ | exact below_al (below_al (B4) _) _ | exact below_al (below_al (below_al (B4) _) _) _ | exact below_al (below_al (below_al (below_al (B4) _) _) _) _ | exact below_al (below_al (below_al (below_al (below_al (B4) _) _) _) _) _) hb5
    clear hb5 B4 k0_4 c0_4 z0_4
    go_wp2
    go_ret
    exact ⟨rfl, B5⟩
set_option maxHeartbeats 1000000 in
theorem walk_TalkMinutes (c l o f h t : Int) (r : ByteArray) (w : World) (hr : r.size ≤ maxLen) :
    Calls Try.prog 8 #[.agg #[.int .i64 c, .int .i64 l, .int .i64 o, .int .i64 f, .int .i64 h, .int .i64 t, .string r]] w fun e w' => e = .returned (.bool true) ∧ Below w.heap.size w w' := by
  by_cases hn : (1048576 : Int) < r.size
  · go_enter Try.func8, Try.ntmps8
    go_wp2_with fail
    refine (szRecord_any _ _ _ _ _ _ _ _ _ (by omega) (by omega) hr).mono ?_
    rintro e w1 ⟨rfl, hb1⟩
    obtain ⟨k0_1, z0_1⟩ := blk_below hb1 (by first | exact heap_alloc_new _ _ | exact blk_alloc (heap_alloc_new _ _) _ | exact blk_alloc (blk_alloc (heap_alloc_new _ _) _) _)
    have c0_1 := blk_cell k0_1
    have B1 := below_step (w := w) (by first | exact Below.refl _ _ | exact below_al (Below.refl _ _) _ | exact below_al (below_al (Below.refl _ _) _) _ | exact below_al (below_al (below_al (Below.refl _ _) _) _) _ | exact below_al (below_al (below_al (below_al (Below.refl _ _) _) _) _) _ | exact below_al (below_al (below_al (below_al (below_al (Below.refl _ _) _) _) _) _) _) hb1
    clear hb1
    rw [if_pos hn]
    go_wp2
    go_ret
    exact ⟨rfl, B1⟩
  · have hx : (0 : Int) ≤ 1048576 - r.size := by omega
    go_enter Try.func8, Try.ntmps8
    go_wp2_with fail
    refine (szRecord_any _ _ _ _ _ _ _ _ _ (by omega) (by omega) hr).mono ?_
    rintro e w1 ⟨rfl, hb1⟩
    obtain ⟨k0_1, z0_1⟩ := blk_below hb1 (by first | exact heap_alloc_new _ _ | exact blk_alloc (heap_alloc_new _ _) _ | exact blk_alloc (blk_alloc (heap_alloc_new _ _) _) _)
    have c0_1 := blk_cell k0_1
    have B1 := below_step (w := w) (by first | exact Below.refl _ _ | exact below_al (Below.refl _ _) _ | exact below_al (below_al (Below.refl _ _) _) _ | exact below_al (below_al (below_al (Below.refl _ _) _) _) _ | exact below_al (below_al (below_al (below_al (Below.refl _ _) _) _) _) _ | exact below_al (below_al (below_al (below_al (below_al (Below.refl _ _) _) _) _) _) _) hb1
    clear hb1
    rw [if_neg (by omega)]
    go_wp2_with fail
    refine (toRecord_any _ _ _ _ _ _ _ _).mono ?_
    rintro e w2 ⟨rfl, hb2⟩
    obtain ⟨k0_2, z0_2⟩ := blk_below hb2 (by first | exact k0_1 | exact blk_alloc (k0_1) _ | exact blk_alloc (blk_alloc (k0_1) _) _ | exact blk_alloc (blk_alloc (blk_alloc (k0_1) _) _) _ | exact blk_alloc (blk_alloc (blk_alloc (blk_alloc (k0_1) _) _) _) _)
    have c0_2 := blk_cell k0_2
    have B2 := below_step (w := w) (by first | exact B1 | exact below_al (B1) _ | exact below_al (below_al (B1) _) _ | exact below_al (below_al (below_al (B1) _) _) _ | exact below_al (below_al (below_al (below_al (B1) _) _) _) _ | exact below_al (below_al (below_al (below_al (below_al (B1) _) _) _) _) _) hb2
    clear hb2 B1 k0_1 c0_1 z0_1
    go_wp2_with fail
    refine (spec_TalkMinutes _ _ _ _ _ _ _ _).mono ?_
    rintro e w3 ⟨rfl, hb3⟩
    obtain ⟨k0_3, z0_3⟩ := blk_below hb3 (by first | exact k0_2 | exact blk_alloc (k0_2) _ | exact blk_alloc (blk_alloc (k0_2) _) _ | exact blk_alloc (blk_alloc (blk_alloc (k0_2) _) _) _ | exact blk_alloc (blk_alloc (blk_alloc (blk_alloc (k0_2) _) _) _) _)
    have c0_3 := blk_cell k0_3
    have B3 := below_step (w := w) (by first | exact B2 | exact below_al (B2) _ | exact below_al (below_al (B2) _) _ | exact below_al (below_al (below_al (B2) _) _) _ | exact below_al (below_al (below_al (below_al (B2) _) _) _) _ | exact below_al (below_al (below_al (below_al (below_al (B2) _) _) _) _) _) hb3
    clear hb3 B2 k0_2 c0_2 z0_2
    go_wp2_with fail
    refine (toRecord_any _ _ _ _ _ _ _ _).mono ?_
    rintro e w4 ⟨rfl, hb4⟩
    obtain ⟨k0_4, z0_4⟩ := blk_below hb4 (by first | exact k0_3 | exact blk_alloc (k0_3) _ | exact blk_alloc (blk_alloc (k0_3) _) _ | exact blk_alloc (blk_alloc (blk_alloc (k0_3) _) _) _ | exact blk_alloc (blk_alloc (blk_alloc (blk_alloc (k0_3) _) _) _) _)
    have c0_4 := blk_cell k0_4
    have B4 := below_step (w := w) (by first | exact B3 | exact below_al (B3) _ | exact below_al (below_al (B3) _) _ | exact below_al (below_al (below_al (B3) _) _) _ | exact below_al (below_al (below_al (below_al (B3) _) _) _) _ | exact below_al (below_al (below_al (below_al (below_al (B3) _) _) _) _) _) hb4
    clear hb4 B3 k0_3 c0_3 z0_3
    go_wp2_with fail
    refine (impl_TalkMinutes _ _ _ _ _ _ _ _).mono ?_
    rintro e w5 ⟨rfl, hb5⟩
    obtain ⟨k0_5, z0_5⟩ := blk_below hb5 (by first | exact k0_4 | exact blk_alloc (k0_4) _ | exact blk_alloc (blk_alloc (k0_4) _) _ | exact blk_alloc (blk_alloc (blk_alloc (k0_4) _) _) _ | exact blk_alloc (blk_alloc (blk_alloc (blk_alloc (k0_4) _) _) _) _)
    have c0_5 := blk_cell k0_5
    have B5 := below_step (w := w) (by first | exact B4 | exact below_al (B4) _ | exact below_al (below_al (B4) _) _ | exact below_al (below_al (below_al (B4) _) _) _ | exact below_al (below_al (below_al (below_al (B4) _) _) _) _ | exact below_al (below_al (below_al (below_al (below_al (B4) _) _) _) _) _) hb5
    clear hb5 B4 k0_4 c0_4 z0_4
    go_wp2
    go_ret
    exact ⟨rfl, B5⟩
/-! ### Keepers -/
def keeperB (r : List UInt8) (f t : Int) : Bool := decide ((r = [111, 110, 101] ∨ r = [114, 101, 115, 116] ∨ r = [97, 108, 108]) ∧ 0 ≤ f ∧ f ≤ 20 ∧ 1 ≤ t ∧ t ≤ 20)
set_option maxHeartbeats 1000000 in
theorem impl_KeeperValid (r : ByteArray) (f t : Int) (w : World) :
    Calls Try.prog 21 #[.agg #[.string r, .int .i64 f, .int .i64 t]] w fun e w' => e = .returned (.bool (keeperB r.toList f t)) ∧ Below w.heap.size w w' := by
  go_enter Try.func21, Try.ntmps21
  go_wp2
  all_goals go_ret
  all_goals refine ⟨ret_bool ?_, below_al (Below.refl _ _) _⟩
  all_goals rw [Bool.eq_iff_iff]
  all_goals simp [keeperB]
  all_goals grind
set_option maxHeartbeats 1000000 in
theorem spec_KeeperValid (r : ByteArray) (f t : Int) (w : World) :
    Calls Try.prog 19 #[.agg #[.string r, .int .i64 f, .int .i64 t]] w fun e w' => e = .returned (.bool (keeperB r.toList f t)) ∧ Below w.heap.size w w' := by
  go_enter Try.func19, Try.ntmps19
  go_wp2_with ((go_at_call 50; refine (l1In_any _ _ _ _).mono ?_; rintro e w' ⟨rfl, rfl⟩))
  all_goals go_ret
  all_goals refine ⟨ret_bool ?_, below_al (Below.refl _ _) _⟩
  all_goals rw [Bool.eq_iff_iff]
  all_goals simp [keeperB, inB] at *
  all_goals grind
set_option maxHeartbeats 1000000 in
theorem toKeeper_any (r : ByteArray) (f t : Int) (w : World) :
    Calls Try.prog 20 #[.agg #[.string r, .int .i64 f, .int .i64 t]] w fun e w' => e = .returned (.agg #[.string r, .int .i64 f, .int .i64 t]) ∧ Below w.heap.size w w' := by
  go_enter Try.func20, Try.ntmps20
  go_wp2
  refine bodyPost_ret (v := .agg #[.string r, .int .i64 f, .int .i64 t]) (by simp [results, Try.results20, go_sem]) rfl ⟨rfl, ?_⟩
  exact below_al (below_al (below_al (Below.refl _ _) _) _) _
set_option maxHeartbeats 1000000 in
theorem szKeeper_any (r : ByteArray) (f t n : Int) (w : World) (h0 : 0 ≤ n) (h1 : n ≤ 1048576) (hr : r.size ≤ maxLen) :
    Calls Try.prog 18 #[.agg #[.string r, .int .i64 f, .int .i64 t], .int .i64 n] w fun e w' => e = .returned (.int .i64 (if n < r.size then -1 else n - r.size)) ∧ Below w.heap.size w w' := by
  unfold maxLen at hr
  by_cases hn : n < r.size
  · have hx : n - r.size < 0 := by omega
    go_enter Try.func18, Try.ntmps18
    go_wp2
    go_ret
    exact ⟨rfl, below_al (Below.refl _ _) _⟩
  · have hx : 0 ≤ n - r.size := by omega
    go_enter Try.func18, Try.ntmps18
    go_wp2
    go_ret
    exact ⟨rfl, below_al (Below.refl _ _) _⟩
set_option maxHeartbeats 1000000 in
theorem walk_KeeperValid (r : ByteArray) (f t : Int) (w : World) (hr : r.size ≤ maxLen) :
    Calls Try.prog 4 #[.agg #[.string r, .int .i64 f, .int .i64 t]] w fun e w' => e = .returned (.bool true) ∧ Below w.heap.size w w' := by
  by_cases hn : (1048576 : Int) < r.size
  · go_enter Try.func4, Try.ntmps4
    go_wp2_with fail
    refine (szKeeper_any _ _ _ _ _ (by omega) (by omega) hr).mono ?_
    rintro e w1 ⟨rfl, hb1⟩
    obtain ⟨k0_1, z0_1⟩ := blk_below hb1 (by first | exact heap_alloc_new _ _ | exact blk_alloc (heap_alloc_new _ _) _ | exact blk_alloc (blk_alloc (heap_alloc_new _ _) _) _)
    have c0_1 := blk_cell k0_1
    have B1 := below_step (w := w) (by first | exact Below.refl _ _ | exact below_al (Below.refl _ _) _ | exact below_al (below_al (Below.refl _ _) _) _ | exact below_al (below_al (below_al (Below.refl _ _) _) _) _ | exact below_al (below_al (below_al (below_al (Below.refl _ _) _) _) _) _ | exact below_al (below_al (below_al (below_al (below_al (Below.refl _ _) _) _) _) _) _) hb1
    clear hb1
    rw [if_pos hn]
    go_wp2
    go_ret
    exact ⟨rfl, B1⟩
  · have hx : (0 : Int) ≤ 1048576 - r.size := by omega
    go_enter Try.func4, Try.ntmps4
    go_wp2_with fail
    refine (szKeeper_any _ _ _ _ _ (by omega) (by omega) hr).mono ?_
    rintro e w1 ⟨rfl, hb1⟩
    obtain ⟨k0_1, z0_1⟩ := blk_below hb1 (by first | exact heap_alloc_new _ _ | exact blk_alloc (heap_alloc_new _ _) _ | exact blk_alloc (blk_alloc (heap_alloc_new _ _) _) _)
    have c0_1 := blk_cell k0_1
    have B1 := below_step (w := w) (by first | exact Below.refl _ _ | exact below_al (Below.refl _ _) _ | exact below_al (below_al (Below.refl _ _) _) _ | exact below_al (below_al (below_al (Below.refl _ _) _) _) _ | exact below_al (below_al (below_al (below_al (Below.refl _ _) _) _) _) _ | exact below_al (below_al (below_al (below_al (below_al (Below.refl _ _) _) _) _) _) _) hb1
    clear hb1
    rw [if_neg (by omega)]
    go_wp2_with fail
    refine (toKeeper_any _ _ _ _).mono ?_
    rintro e w2 ⟨rfl, hb2⟩
    obtain ⟨k0_2, z0_2⟩ := blk_below hb2 (by first | exact k0_1 | exact blk_alloc (k0_1) _ | exact blk_alloc (blk_alloc (k0_1) _) _ | exact blk_alloc (blk_alloc (blk_alloc (k0_1) _) _) _ | exact blk_alloc (blk_alloc (blk_alloc (blk_alloc (k0_1) _) _) _) _)
    have c0_2 := blk_cell k0_2
    have B2 := below_step (w := w) (by first | exact B1 | exact below_al (B1) _ | exact below_al (below_al (B1) _) _ | exact below_al (below_al (below_al (B1) _) _) _ | exact below_al (below_al (below_al (below_al (B1) _) _) _) _ | exact below_al (below_al (below_al (below_al (below_al (B1) _) _) _) _) _) hb2
    clear hb2 B1 k0_1 c0_1 z0_1
    go_wp2_with fail
    refine (spec_KeeperValid _ _ _ _).mono ?_
    rintro e w3 ⟨rfl, hb3⟩
    obtain ⟨k0_3, z0_3⟩ := blk_below hb3 (by first | exact k0_2 | exact blk_alloc (k0_2) _ | exact blk_alloc (blk_alloc (k0_2) _) _ | exact blk_alloc (blk_alloc (blk_alloc (k0_2) _) _) _ | exact blk_alloc (blk_alloc (blk_alloc (blk_alloc (k0_2) _) _) _) _)
    have c0_3 := blk_cell k0_3
    have B3 := below_step (w := w) (by first | exact B2 | exact below_al (B2) _ | exact below_al (below_al (B2) _) _ | exact below_al (below_al (below_al (B2) _) _) _ | exact below_al (below_al (below_al (below_al (B2) _) _) _) _ | exact below_al (below_al (below_al (below_al (below_al (B2) _) _) _) _) _) hb3
    clear hb3 B2 k0_2 c0_2 z0_2
    go_wp2_with fail
    refine (toKeeper_any _ _ _ _).mono ?_
    rintro e w4 ⟨rfl, hb4⟩
    obtain ⟨k0_4, z0_4⟩ := blk_below hb4 (by first | exact k0_3 | exact blk_alloc (k0_3) _ | exact blk_alloc (blk_alloc (k0_3) _) _ | exact blk_alloc (blk_alloc (blk_alloc (k0_3) _) _) _ | exact blk_alloc (blk_alloc (blk_alloc (blk_alloc (k0_3) _) _) _) _)
    have c0_4 := blk_cell k0_4
    have B4 := below_step (w := w) (by first | exact B3 | exact below_al (B3) _ | exact below_al (below_al (B3) _) _ | exact below_al (below_al (below_al (B3) _) _) _ | exact below_al (below_al (below_al (below_al (B3) _) _) _) _ | exact below_al (below_al (below_al (below_al (below_al (B3) _) _) _) _) _) hb4
    clear hb4 B3 k0_3 c0_3 z0_3
    go_wp2_with fail
    refine (impl_KeeperValid _ _ _ _).mono ?_
    rintro e w5 ⟨rfl, hb5⟩
    obtain ⟨k0_5, z0_5⟩ := blk_below hb5 (by first | exact k0_4 | exact blk_alloc (k0_4) _ | exact blk_alloc (blk_alloc (k0_4) _) _ | exact blk_alloc (blk_alloc (blk_alloc (k0_4) _) _) _ | exact blk_alloc (blk_alloc (blk_alloc (blk_alloc (k0_4) _) _) _) _)
    have c0_5 := blk_cell k0_5
    have B5 := below_step (w := w) (by first | exact B4 | exact below_al (B4) _ | exact below_al (below_al (B4) _) _ | exact below_al (below_al (below_al (B4) _) _) _ | exact below_al (below_al (below_al (below_al (B4) _) _) _) _ | exact below_al (below_al (below_al (below_al (below_al (B4) _) _) _) _) _) hb5
    clear hb5 B4 k0_4 c0_4 z0_4
    go_wp2
    go_ret
    exact ⟨rfl, B5⟩
end Go.Proofs.Ytgcnhojiaaonmaa
