/-
  The walks of the laws that hold one answer of chapters 8 and 9 against the reference's: TariffValid, KeeperValid, ChargeOf, RecordValid, TalkMinutes.
-/
import Derived.Test.YtgcnhojiaaonmaaRec
namespace Go.Proofs.Ytgcnhojiaaonmaa
open Go.RowKit
def talkF (c l o f h t : Int) (e : List UInt8) : Int := if recB c l o f h t e = true ∧ e = [100, 111, 110, 101] then t - h else -1
set_option maxHeartbeats 1000000 in
theorem impl_TalkMinutes (c l o f h t : Int) (e : ByteArray) (w : World) :
    Calls Try.prog 30 #[.agg #[.int .i64 c, .int .i64 l, .int .i64 o, .int .i64 f, .int .i64 h, .int .i64 t, .string e]] w fun x w' => x = .returned (.int .i64 (talkF c l o f h t e.toList)) ∧ Below w.heap.size w w' := by
  by_cases hr : recB c l o f h t e.toList = true
  · by_cases hd : e.toList = [100, 111, 110, 101]
    · have hb : 0 ≤ t - h ∧ t - h ≤ 3600 := by
        have := of_decide_eq_true hr
        simp only [recP, hd] at this
        simp at this
        omega
      obtain ⟨hb0, hb1⟩ := hb
      have H := Lib.hid hr
      have hb' : (e.toList == [100, 111, 110, 101]) = true := by simp [hd]
      have hrf : talkF c l o f h t e.toList = t - h := by rw [talkF, if_pos ⟨hr, hd⟩]
      have HF := Lib.hid hrf
      clear hd hrf
      go_enter Try.func30, Try.ntmps30
      go_wp2_with fail
      refine (impl_RecordValid _ _ _ _ _ _ _ _).mono ?_
      rintro e w1 ⟨rfl, hb1⟩
      obtain ⟨k0_1, z0_1⟩ := blk_below hb1 (by first | exact heap_alloc_new _ _ | exact blk_alloc (heap_alloc_new _ _) _ | exact blk_alloc (blk_alloc (heap_alloc_new _ _) _) _)
      have c0_1 := blk_cell k0_1
      have B1 := below_step (w := w) (by first | exact Below.refl _ _ | exact below_al (Below.refl _ _) _ | exact below_al (below_al (Below.refl _ _) _) _ | exact below_al (below_al (below_al (Below.refl _ _) _) _) _ | exact below_al (below_al (below_al (below_al (Below.refl _ _) _) _) _) _ | exact below_al (below_al (below_al (below_al (below_al (Below.refl _ _) _) _) _) _) _) hb1
      clear hb1
      go_wp2
      go_ret
      exact ⟨ret_int HF.out.symm, B1⟩
    · have hrf : talkF c l o f h t e.toList = -1 := by rw [talkF, if_neg (fun x => hd x.2)]
      have HF := Lib.hid hrf
      have hb' : (e.toList == [100, 111, 110, 101]) = false := by simp [hd]
      clear hrf hd
      go_enter Try.func30, Try.ntmps30
      go_wp2_with fail
      refine (impl_RecordValid _ _ _ _ _ _ _ _).mono ?_
      rintro e w1 ⟨rfl, hb1⟩
      obtain ⟨k0_1, z0_1⟩ := blk_below hb1 (by first | exact heap_alloc_new _ _ | exact blk_alloc (heap_alloc_new _ _) _ | exact blk_alloc (blk_alloc (heap_alloc_new _ _) _) _)
      have c0_1 := blk_cell k0_1
      have B1 := below_step (w := w) (by first | exact Below.refl _ _ | exact below_al (Below.refl _ _) _ | exact below_al (below_al (Below.refl _ _) _) _ | exact below_al (below_al (below_al (Below.refl _ _) _) _) _ | exact below_al (below_al (below_al (below_al (Below.refl _ _) _) _) _) _ | exact below_al (below_al (below_al (below_al (below_al (Below.refl _ _) _) _) _) _) _) hb1
      clear hb1
      go_wp2
      go_ret
      exact ⟨ret_int HF.out.symm, B1⟩
  · have hr' : recB c l o f h t e.toList = false := by simpa using hr
    have hrf : talkF c l o f h t e.toList = -1 := by rw [talkF, if_neg (fun x => hr x.1)]
    have HF := Lib.hid hrf
    clear hrf hr
    go_enter Try.func30, Try.ntmps30
    go_wp2_with fail
    refine (impl_RecordValid _ _ _ _ _ _ _ _).mono ?_
    rintro e w1 ⟨rfl, hb1⟩
    obtain ⟨k0_1, z0_1⟩ := blk_below hb1 (by first | exact heap_alloc_new _ _ | exact blk_alloc (heap_alloc_new _ _) _ | exact blk_alloc (blk_alloc (heap_alloc_new _ _) _) _)
    have c0_1 := blk_cell k0_1
    have B1 := below_step (w := w) (by first | exact Below.refl _ _ | exact below_al (Below.refl _ _) _ | exact below_al (below_al (Below.refl _ _) _) _ | exact below_al (below_al (below_al (Below.refl _ _) _) _) _ | exact below_al (below_al (below_al (below_al (Below.refl _ _) _) _) _) _ | exact below_al (below_al (below_al (below_al (below_al (Below.refl _ _) _) _) _) _) _) hb1
    clear hb1
    go_wp2
    go_ret
    exact ⟨ret_int HF.out.symm, B1⟩
set_option maxHeartbeats 1000000 in
theorem spec_TalkMinutes (c l o f h t : Int) (e : ByteArray) (w : World) :
    Calls Try.prog 29 #[.agg #[.int .i64 c, .int .i64 l, .int .i64 o, .int .i64 f, .int .i64 h, .int .i64 t, .string e]] w fun x w' => x = .returned (.int .i64 (talkF c l o f h t e.toList)) ∧ Below w.heap.size w w' := by
  by_cases hr : recB c l o f h t e.toList = true
  · by_cases hd : e.toList = [100, 111, 110, 101]
    · have hb : 0 ≤ t - h ∧ t - h ≤ 3600 := by
        have := of_decide_eq_true hr
        simp only [recP, hd] at this
        simp at this
        omega
      obtain ⟨hb0, hb1⟩ := hb
      have H := Lib.hid hr
      have hb' : (e.toList == [100, 111, 110, 101]) = true := by simp [hd]
      have hrf : talkF c l o f h t e.toList = t - h := by rw [talkF, if_pos ⟨hr, hd⟩]
      have HF := Lib.hid hrf
      clear hd hrf
      go_enter Try.func29, Try.ntmps29
      go_wp2_with fail
      refine (spec_RecordValid _ _ _ _ _ _ _ _).mono ?_
      rintro e w1 ⟨rfl, hb1⟩
      obtain ⟨k0_1, z0_1⟩ := blk_below hb1 (by first | exact heap_alloc_new _ _ | exact blk_alloc (heap_alloc_new _ _) _ | exact blk_alloc (blk_alloc (heap_alloc_new _ _) _) _)
      have c0_1 := blk_cell k0_1
      have B1 := below_step (w := w) (by first | exact Below.refl _ _ | exact below_al (Below.refl _ _) _ | exact below_al (below_al (Below.refl _ _) _) _ | exact below_al (below_al (below_al (Below.refl _ _) _) _) _ | exact below_al (below_al (below_al (below_al (Below.refl _ _) _) _) _) _ | exact below_al (below_al (below_al (below_al (below_al (Below.refl _ _) _) _) _) _) _) hb1
      clear hb1
      go_wp2
      go_ret
      exact ⟨ret_int HF.out.symm, B1⟩
    · have hrf : talkF c l o f h t e.toList = -1 := by rw [talkF, if_neg (fun x => hd x.2)]
      have HF := Lib.hid hrf
      have hb' : (e.toList == [100, 111, 110, 101]) = false := by simp [hd]
      clear hrf hd
      go_enter Try.func29, Try.ntmps29
      go_wp2_with fail
      refine (spec_RecordValid _ _ _ _ _ _ _ _).mono ?_
      rintro e w1 ⟨rfl, hb1⟩
      obtain ⟨k0_1, z0_1⟩ := blk_below hb1 (by first | exact heap_alloc_new _ _ | exact blk_alloc (heap_alloc_new _ _) _ | exact blk_alloc (blk_alloc (heap_alloc_new _ _) _) _)
      have c0_1 := blk_cell k0_1
      have B1 := below_step (w := w) (by first | exact Below.refl _ _ | exact below_al (Below.refl _ _) _ | exact below_al (below_al (Below.refl _ _) _) _ | exact below_al (below_al (below_al (Below.refl _ _) _) _) _ | exact below_al (below_al (below_al (below_al (Below.refl _ _) _) _) _) _ | exact below_al (below_al (below_al (below_al (below_al (Below.refl _ _) _) _) _) _) _) hb1
      clear hb1
      go_wp2
      go_ret
      exact ⟨ret_int HF.out.symm, B1⟩
  · have hr' : recB c l o f h t e.toList = false := by simpa using hr
    have hrf : talkF c l o f h t e.toList = -1 := by rw [talkF, if_neg (fun x => hr x.1)]
    have HF := Lib.hid hrf
    clear hrf hr
    go_enter Try.func29, Try.ntmps29
    go_wp2_with fail
    refine (spec_RecordValid _ _ _ _ _ _ _ _).mono ?_
    rintro e w1 ⟨rfl, hb1⟩
    obtain ⟨k0_1, z0_1⟩ := blk_below hb1 (by first | exact heap_alloc_new _ _ | exact blk_alloc (heap_alloc_new _ _) _ | exact blk_alloc (blk_alloc (heap_alloc_new _ _) _) _)
    have c0_1 := blk_cell k0_1
    have B1 := below_step (w := w) (by first | exact Below.refl _ _ | exact below_al (Below.refl _ _) _ | exact below_al (below_al (Below.refl _ _) _) _ | exact below_al (below_al (below_al (Below.refl _ _) _) _) _ | exact below_al (below_al (below_al (below_al (Below.refl _ _) _) _) _) _ | exact below_al (below_al (below_al (below_al (below_al (Below.refl _ _) _) _) _) _) _) hb1
    clear hb1
    go_wp2
    go_ret
    exact ⟨ret_int HF.out.symm, B1⟩
end Go.Proofs.Ytgcnhojiaaonmaa
