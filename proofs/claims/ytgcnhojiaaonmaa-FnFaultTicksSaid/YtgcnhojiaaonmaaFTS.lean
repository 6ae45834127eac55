/-
  FaultTicks of the reference.
-/
import Derived.Test.YtgcnhojiaaonmaaFT
namespace Go.Proofs.Ytgcnhojiaaonmaa
open Go.RowKit
set_option linter.unusedVariables false
set_option maxHeartbeats 2000000 in
theorem spec_l9Faults (lo hi lo2 hi2 n c : Nat) (A : Option Addr) (rs : List Row) (w : World) (h : Mat w lo hi lo2 hi2 A n c rs) (hn : n ≤ 1048576) (hr : ∀ r ∈ rs, r.n ≤ 1048576) (hT : tasksB (rs.map Row.xs) = true) :
    Calls Try.prog 58 #[.slice A n c] w (fun e w' => ∃ A n c, e = .returned (.slice A n c) ∧ Own w' w.heap.size w'.heap.size A n c (faultsUpto (longF (rs.map Row.xs)) (rs.map Row.xs)) ∧ Below w.heap.size w w') := by
  obtain ⟨t1, t2, t3⟩ := tasksB_facts hT
  have hlen := h.length
  rw [List.length_map, hlen] at t1 t2
  have hT20 : longF (rs.map Row.xs) ≤ 20 := longF_le t3
  obtain ⟨T, hTe⟩ : ∃ T, T = longF (rs.map Row.xs) := ⟨_, rfl⟩
  rw [← hTe] at hT20
  have HTE := Lib.hid hTe
  have hl := Lib.hid hlen
  have HR := Lib.hid hr
  have HTB := Lib.hid hT
  obtain ⟨i0, hi, hz0, hz1, hz2⟩ := info_parts info_int
  have HI := Lib.hid (And.intro hi (And.intro hz0 (And.intro hz1 hz2)))
  clear hr t3 hT hlen hTe hi hz0 hz1 hz2
  go_enter Try.func58, Try.ntmps58
  go_wp2
  go_loopw [3, 4] (fun v i wr => ∃ k : Nat, k ≤ T ∧ i = .int .i64 k ∧ Below w.heap.size w wr ∧ wr.ownsRow w.heap.size 3 1 v (faultsUpto k (rs.map Row.xs)).length (ints (faultsUpto k (rs.map Row.xs)))) (fun _ i _ => T - (intOf i).toNat)
  case atStart => exact ⟨0, Nat.zero_le _, rfl, below_al (Below.refl _ _) _, owns_empty (Nat.le_refl _) (heap_alloc_new _ _)⟩
  case round =>
    obtain ⟨k, hk, rfl, B, hown⟩ := hrel
    have HO := Lib.hid hown
    clear hown
    by_cases hlt : k < T
    · obtain ⟨wo, rfl⟩ : ∃ wo : World, wo = wr := ⟨_, rfl⟩
      go_wp2_with fail
      refine (spec_longest _ _ _ _ _ _ _ _ _ (h.below B) hn HR.out).mono ?_
      rintro e wo ⟨rfl, rfl⟩
      rw [← HTE.out]
      go_wp2
      go_loopw [3, 5] (fun v i wr => ∃ m : Nat, m ≤ n ∧ i = .int .i64 m ∧ Below w.heap.size w wr ∧ wr.ownsRow w.heap.size 3 1 v (faultsUpto k (rs.map Row.xs) ++ tickRow k ((rs.map Row.xs).take m)).length (ints (faultsUpto k (rs.map Row.xs) ++ tickRow k ((rs.map Row.xs).take m)))) (fun _ i _ => n - (intOf i).toNat)
      case atStart => exact ⟨0, Nat.zero_le _, rfl, B, by simpa [tickRow] using HO.out⟩
      case round =>
        obtain ⟨m, hm, rfl, B2, hown⟩ := hrel
        by_cases hlm : m < n
        · obtain ⟨b, off, r, rfl, _, _, h3, hxk, hmem, hv, hrow⟩ := (h.below B2).rowAt hlm
          have hrn := HR.out r hmem
          have hrl := hrow.length
          have HX := Lib.hid (show (rs.map Row.xs)[m]? = some r.xs by rw [List.getElem?_map, hxk]; rfl)
          have HTS := Lib.hid (show tickRow k ((rs.map Row.xs).take (m + 1)) = tickRow k ((rs.map Row.xs).take m) ++ if tickB k r.xs then [(k : Int)] else [] by rw [take_snoc' HX.out, tickRow_snoc])
          have hlen : (faultsUpto k (rs.map Row.xs) ++ tickRow k ((rs.map Row.xs).take m)).length ≤ 84 := by
            rw [List.length_append]
            have a1 := faultsUpto_len k (rs.map Row.xs)
            have a2 := tickRow_len k ((rs.map Row.xs).take m)
            rw [List.length_take] at a2
            have a3 : k * (rs.map Row.xs).length ≤ 20 * 4 := Nat.mul_le_mul (by omega) (by rw [List.length_map, hl.out]; exact t2)
            omega
          have HOW := Lib.hid hown
          have HRL := Lib.hid hrl
          clear hxk hmem h hown hrl
          by_cases hkr : k < r.n
          · obtain ⟨b2, off2, x, hA2, _, _, _, hxm, hv2⟩ := hrow.cellAt hkr
            rw [hA2] at hv
            have HXM := Lib.hid hxm
            clear hxm hrow hA2
            by_cases hx : x = 0
            · subst hx
              have HTB2 := Lib.hid (show tickB k r.xs = true by simp [tickB, HXM.out])
              obtain ⟨hi, hz0, hz1, hz2⟩ := HI.out
              have HH := Lib.hid hi
              clear hi
              go_wp2_with (at_builtin; refine wpList_append_own_at _ rfl _ _ 54 rfl w.heap.size 3 i0 (.int .i64 0) 1 8 Try.underlying54 HH.out hz0 hz1 hz2 rfl (by decide) _ _ _ rfl (owns_below HOW.out (fun b hb => Below.heap_alloc _ _ b hb)) ⟨wr.heap.size, 0, none⟩ 1 1 [.int .i64 (k : Int)] rfl rfl (cell_one_new _ _ _) (by simp [Value.oneCell']) (by unfold maxLen; omega) (by omega) (by have := B2.size; simp; omega) ?_; intro v' w2 hown2 hgr _ hblk)
              have HO2 := Lib.hid hown2
              have HG := Lib.hid hgr
              clear hown2 hgr hblk hz0 hz1 hz2
              go_wp2
              go_roundw
              case rel => exact ⟨m + 1, by omega, by go_num, (below_al B2 _).trans (below_row HOW.out HG.out (by have := B2.size; simp; omega)), owns_cast HO2.out (by rw [HTS.out, HTB2.out]; simp [ints]) (by rw [HTS.out, HTB2.out]; simp; omega)⟩
              case measure => simp [intOf]; omega
            · have HTB2 := Lib.hid (show tickB k r.xs = false by simp [tickB, HXM.out, hx])
              have hxb : (x == 0) = false := by simp [hx]
              have HX0 := Lib.hid hx
              clear hx
              go_wp2
              go_roundw
              case rel => exact ⟨m + 1, by omega, by go_num, B2, owns_cast HOW.out (by rw [HTS.out, HTB2.out]; simp) (by rw [HTS.out, HTB2.out]; simp)⟩
              case measure => simp [intOf]; omega
          · have HTB2 := Lib.hid (show tickB k r.xs = false by unfold tickB; rw [List.getElem?_eq_none (by rw [HRL.out]; omega)]; rfl)
            clear hrow
            go_wp2
            go_roundw
            case rel => exact ⟨m + 1, by omega, by go_num, B2, owns_cast HOW.out (by rw [HTS.out, HTB2.out]; simp) (by rw [HTS.out, HTB2.out]; simp)⟩
            case measure => simp [intOf]; omega
        · have e : m = n := by omega
          have HE := Lib.hid e
          have HOW := Lib.hid hown
          have HFS := Lib.hid (faultsUpto_succ k (rs.map Row.xs))
          have HTK := Lib.hid (show (rs.map Row.xs).take m = rs.map Row.xs by rw [HE.out]; exact List.take_of_length_le (by rw [List.length_map, hl.out]; exact Nat.le_refl _))
          clear e hown
          go_wp2
          go_roundw
          case rel => exact ⟨k + 1, by omega, by go_num, B2, owns_cast HOW.out (by rw [HFS.out, HTK.out]) (by rw [HFS.out, HTK.out])⟩
          case measure => simp [intOf]; omega
    · have e : k = T := by omega
      have HE := Lib.hid e
      clear e
      go_wp2_with fail
      refine (spec_longest _ _ _ _ _ _ _ _ _ (h.below B) hn HR.out).mono ?_
      rintro e wr ⟨rfl, rfl⟩
      rw [← HTE.out]
      clear h
      go_wp2
      go_ret
      have e2 : k = longF (rs.map Row.xs) := by rw [HE.out, HTE.out]
      obtain ⟨A1, c1, rfl, ho⟩ := own_of_row (owns_cast HO.out (ys := ints (faultsUpto (longF (rs.map Row.xs)) (rs.map Row.xs))) (n' := (faultsUpto (longF (rs.map Row.xs)) (rs.map Row.xs)).length) (by rw [e2]) (by rw [e2]))
      exact ⟨_, _, _, rfl, ho, B⟩
end Go.Proofs.Ytgcnhojiaaonmaa
