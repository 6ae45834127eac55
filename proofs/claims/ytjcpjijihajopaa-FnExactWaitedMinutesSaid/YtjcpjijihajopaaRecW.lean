/-
  The reference's WaitedMinutes.
-/
import Derived.Test.YtjcpjijihajopaaRecB
import Derived.BigQuiet
set_option linter.unusedSectionVars false
set_option linter.unusedSimpArgs false
set_option linter.unusedVariables false
namespace Go.Proofs.Ytjcpjijihajopaa
open Go.RowKit
set_option linter.unusedVariables false
def untilF (k : Int) (d : RecD) : Int := if d.h = -1 then endF k d else d.h
def waitF (l k : Int) (d : RecD) : Int := if d.c = l then untilF k d - d.f else 0
def waitM (ds : List RecD) (l k : Int) : Int := if clockB ds k = true ∧ 1 ≤ l ∧ l ≤ 99 then sumR (waitF l k) ds else -1
theorem until_times {d : RecD} {k : Int} (h : recOk d = true) (hk : d.f ≤ k ∧ d.h ≤ k ∧ d.t ≤ k) (k1 : k ≤ 3600) : 0 ≤ untilF k d - d.f ∧ untilF k d - d.f ≤ 3600 ∧ -1 ≤ untilF k d ∧ untilF k d ≤ 3600 := by
  have := recOk_times h hk k1
  unfold untilF
  split <;> omega
theorem waitF_bound {ds : List RecD} {l k : Int} (h : clockB ds k = true) : ∀ d ∈ ds, 0 ≤ waitF l k d ∧ waitF l k d ≤ 3600 := by
  intro d hd
  obtain ⟨_, _, k1, hall⟩ := clockB_parts h
  obtain ⟨h1, h2⟩ := hall d hd
  have := until_times h1 h2 k1
  unfold waitF
  split <;> omega
set_option maxHeartbeats 4000000 in
set_option maxRecDepth 20000 in
theorem spec_WaitedMinutes (lo hi n c : Nat) (A : Option Addr) (ds : List RecD) (l q : Int) (w : World) (h : Slc w lo hi 7 A n c (recs ds)) (hn : n ≤ 1048576) :
    Calls Try.prog 14 #[.slice A n c, .int .i64 l, .int .i64 q] w fun e w' => e = .returned (.int .i64 (waitM ds l q)) ∧ Below w.heap.size w w' := by
  have hl := Lib.hid h.recLen
  obtain ⟨t, ht⟩ : ∃ t, t = clockB ds q := ⟨_, rfl⟩
  have HT := Lib.hid ht
  clear ht
  go_enter Try.func14, Try.ntmps14
  go_wp2_with fail
  refine (spec_l8Clock _ _ _ _ _ _ _ _ h hn).mono ?_
  rintro e w0 ⟨rfl, b0⟩
  rw [← HT.out]
  have h0 := h.below b0
  have B0 := below_step (Below.refl _ _) b0
  clear h b0
  cases t
  · clear h0
    go_wp2
    go_ret
    exact ⟨ret_int (by symm; unfold waitM; rw [← HT.out]; simp), B0⟩
  · by_cases hq : 1 ≤ l ∧ l ≤ 99
    · obtain ⟨q0, q1⟩ := hq
      have HB := Lib.hid (show inB l 1 99 = true by simp [inB, q0, q1])
      have HM := Lib.hid (show waitM ds l q = sumR (waitF l q) ds by unfold waitM; rw [if_pos ⟨HT.out.symm, q0, q1⟩])
      have HP := Lib.hid (clockB_parts HT.out.symm)
      have HS := Lib.hid (sumR_bound (waitF_bound (l := l) HT.out.symm))
      go_wp2_with ((go_at_call 31; refine (l1In_any _ _ _ _).mono ?_; rintro e w' ⟨rfl, hww⟩; obtain rfl := hww.symm; rw [HB.out]))
      go_loopw [7, 8] (fun s i wr => ∃ k : Nat, k ≤ n ∧ s = .int .i64 (sumR (waitF l q) (ds.take k)) ∧ i = .int .i64 k ∧ Below w0.heap.size w0 wr) (fun _ i _ => n - (intOf i).toNat)
      case atStart => exact ⟨0, Nat.zero_le _, by simp [sumR], rfl, Below.refl _ _⟩
      case round =>
        obtain ⟨k, hk, rfl, rfl, B⟩ := hrel
        by_cases hlt : k < n
        · obtain ⟨b, off, d, hA, _, _, h3, hxk, hv0, hv1, hv2, hv3, hv4, hv5, hv6⟩ := (h0.below B).rec7 hlt
          subst hA
          have HX := Lib.hid (sumR_succ (f := waitF l q) hxk)
          have hd := List.mem_of_getElem? hxk
          have HD := Lib.hid (HP.out.2.2.2 d hd)
          have hrt := recOk_times HD.out.1 HD.out.2 HP.out.2.2.1
          have hut := until_times HD.out.1 HD.out.2 HP.out.2.2.1
          have hs := HS.out k
          have hl60 := HP.out.1
          have hll := hl.out
          have i0 : (0 : Int) ≤ (k : Int) := by omega
          have i1 : (k : Int) < (n : Int) := by omega
          by_cases hdl : d.c = l
          · subst hdl
            have HF := Lib.hid (show waitF d.c q d = untilF q d - d.f by unfold waitF; rw [if_pos rfl])
            obtain ⟨s, hs'⟩ : ∃ s, s = sumR (waitF d.c q) (ds.take k) := ⟨_, rfl⟩
            rw [← hs'] at HX hs ⊢
            by_cases hh : d.h = -1
            · have HU := Lib.hid (show untilF q d = endF q d by unfold untilF; rw [if_pos hh])
              have HE := Lib.hid (show (if d.t < 0 then q else d.t) = endF q d by unfold endF; split <;> split <;> omega)
              obtain ⟨E, hE⟩ : ∃ E, E = endF q d := ⟨_, rfl⟩
              rw [HU.out] at HF
              rw [← hE] at HF HE hrt
              have r0 : -9223372036854775808 ≤ s + E ∧ s + E ≤ 9223372036854775807 := by omega
              have r1 : -9223372036854775808 ≤ s + E - d.f ∧ s + E - d.f ≤ 9223372036854775807 := by omega
              have hhn : d.h < 0 := by omega
              have W1 := (IntWalk.i64_left _).trans (IntWalk.wrap64_in _ r0)
              have W2 := (IntWalk.i64_left _).trans (IntWalk.wrap64_in _ r1)
              have S0 : wr.cell? ⟨b, off + k * 7, none⟩ = some (.int .i64 d.c) ∧ wr.cell? ⟨b, off + k * 7 + 1, none⟩ = some (.int .i64 d.l) ∧ wr.cell? ⟨b, off + k * 7 + 2, none⟩ = some (.int .i64 d.o) ∧ wr.cell? ⟨b, off + k * 7 + 3, none⟩ = some (.int .i64 d.f) ∧ wr.cell? ⟨b, off + k * 7 + 4, none⟩ = some (.int .i64 d.h) ∧ wr.cell? ⟨b, off + k * 7 + 5, none⟩ = some (.int .i64 d.t) ∧ wr.cell? ⟨b, off + k * 7 + 6, none⟩ = some (.string d.e) ∧ Below w0.heap.size w0 wr := ⟨hv0, hv1, hv2, hv3, hv4, hv5, hv6, B⟩
              clear hxk h0 h3 B hd hrt hut hs hl60 hll hE hs' r0 r1 hh HU
              go_wp2_with fail
              go_region_held3 (fun W => W.cell? ⟨b, off + k * 7, none⟩ = some (.int .i64 d.c) ∧ W.cell? ⟨b, off + k * 7 + 1, none⟩ = some (.int .i64 d.l) ∧ W.cell? ⟨b, off + k * 7 + 2, none⟩ = some (.int .i64 d.o) ∧ W.cell? ⟨b, off + k * 7 + 3, none⟩ = some (.int .i64 d.f) ∧ W.cell? ⟨b, off + k * 7 + 4, none⟩ = some (.int .i64 d.h) ∧ W.cell? ⟨b, off + k * 7 + 5, none⟩ = some (.int .i64 d.t) ∧ W.cell? ⟨b, off + k * 7 + 6, none⟩ = some (.string d.e) ∧ Below w0.heap.size w0 W)
                (first | exact held7_drew S0 | exact held7_below (by assumption) (by assumption) | exact held7_drew (by assumption))
                (first | (go_at_call 32; refine (spec_l8To d q _).mono ?_; rintro x w2 ⟨rfl, b2⟩; rw [HE.out]))
              have S2 : Below w0.heap.size w0 w2 := by
                have S1 : w2.cell? ⟨b, off + k * 7, none⟩ = some (.int .i64 d.c) ∧ w2.cell? ⟨b, off + k * 7 + 1, none⟩ = some (.int .i64 d.l) ∧ w2.cell? ⟨b, off + k * 7 + 2, none⟩ = some (.int .i64 d.o) ∧ w2.cell? ⟨b, off + k * 7 + 3, none⟩ = some (.int .i64 d.f) ∧ w2.cell? ⟨b, off + k * 7 + 4, none⟩ = some (.int .i64 d.h) ∧ w2.cell? ⟨b, off + k * 7 + 5, none⟩ = some (.int .i64 d.t) ∧ w2.cell? ⟨b, off + k * 7 + 6, none⟩ = some (.string d.e) ∧ Below w0.heap.size w0 w2 := by assumption
                exact S1.2.2.2.2.2.2.2
              clear S0
              have HN := Lib.hid (show s + E - d.f = sumR (waitF d.c q) (ds.take (k + 1)) by rw [HX.out, HF.out]; omega)
              clear W1 W2
              go_wp2
              go_roundw
              case rel => exact ⟨k + 1, by omega, by rw [HN.out], by go_num, S2⟩
              case measure => simp [intOf]; omega
            · have HU := Lib.hid (show untilF q d = d.h by unfold untilF; rw [if_neg hh])
              rw [HU.out] at HF
              have r0 : -9223372036854775808 ≤ s + d.h ∧ s + d.h ≤ 9223372036854775807 := by omega
              have r1 : -9223372036854775808 ≤ s + d.h - d.f ∧ s + d.h - d.f ≤ 9223372036854775807 := by omega
              have hhn : 0 ≤ d.h := by omega
              have W1 := (IntWalk.i64_left _).trans (IntWalk.wrap64_in _ r0)
              have W2 := (IntWalk.i64_left _).trans (IntWalk.wrap64_in _ r1)
              clear hxk h0 hv1 hv2 hv5 hv6 h3 hd hrt hut hs hl60 hll hs' r0 r1 hh HU
              go_wp2_with fail
              go_quiet (fail)
              have HN := Lib.hid (show s + d.h - d.f = sumR (waitF d.c q) (ds.take (k + 1)) by rw [HX.out, HF.out]; omega)
              clear W1 W2
              go_wp2
              go_roundw
              case rel => exact ⟨k + 1, by omega, by rw [HN.out], by go_num, ⟨B.os, B.tape, B.output, B.size, B.block⟩⟩
              case measure => simp [intOf]; omega
          · have HF := Lib.hid (show waitF l q d = 0 by unfold waitF; rw [if_neg hdl])
            clear hxk h0 hv1 hv2 hv3 hv4 hv5 hv6 h3 hd hrt hut hs hl60 hll
            go_wp2
            go_roundw
            case rel => exact ⟨k + 1, by omega, by rw [HX.out, HF.out, Int.add_zero], by go_num, B⟩
            case measure => simp [intOf]; omega
        · have e : n = k := by omega
          subst e
          have HE := Lib.hid (show ds.take n = ds by rw [List.take_of_length_le (by rw [hl.out]; exact Nat.le_refl _)])
          clear h0
          go_wp2
          go_ret
          exact ⟨ret_int (by rw [HM.out, HE.out]), B0.trans (B.mono B0.size)⟩
    · have HQ := Lib.hid (show inB l 1 99 = false by rw [← Bool.not_eq_true]; simpa [inB] using hq)
      have HM := Lib.hid (show waitM ds l q = -1 by unfold waitM; rw [if_neg (fun x => hq x.2)])
      clear hq h0
      go_wp2_with ((go_at_call 31; refine (l1In_any _ _ _ _).mono ?_; rintro e w' ⟨rfl, hww⟩; obtain rfl := hww.symm; rw [HQ.out]))
      go_ret
      exact ⟨ret_int HM.out.symm, B0⟩
end Go.Proofs.Ytjcpjijihajopaa
