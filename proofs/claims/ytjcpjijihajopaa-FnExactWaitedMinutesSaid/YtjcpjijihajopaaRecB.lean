/-
  The reference's BusyMinutes.
-/
import Derived.Test.YtjcpjijihajopaaRecC
set_option linter.unusedSectionVars false
set_option linter.unusedSimpArgs false
set_option linter.unusedVariables false
namespace Go.Proofs.Ytjcpjijihajopaa
open Go.RowKit
set_option linter.unusedVariables false
def sumR (f : RecD → Int) (ds : List RecD) : Int := (ds.map f).sum
theorem sumR_succ {f : RecD → Int} {ds : List RecD} {k : Nat} {d : RecD} (h : ds[k]? = some d) : sumR f (ds.take (k + 1)) = sumR f (ds.take k) + f d := by
  unfold sumR
  rw [List.take_add_one, h]
  simp
theorem sumR_bound {f : RecD → Int} {ds : List RecD} (h : ∀ d ∈ ds, 0 ≤ f d ∧ f d ≤ 3600) (k : Nat) : 0 ≤ sumR f (ds.take k) ∧ sumR f (ds.take k) ≤ 3600 * k := by
  induction k with
  | zero => simp [sumR]
  | succ k ih =>
    by_cases hk : k < ds.length
    · rw [sumR_succ (List.getElem?_eq_getElem hk)]
      have := h ds[k] (List.getElem_mem hk)
      push_cast
      omega
    · rw [List.take_of_length_le (by omega)]
      rw [List.take_of_length_le (by omega)] at ih
      push_cast
      omega
def busyF (l k : Int) (d : RecD) : Int := if d.l = l then endF k d - d.f else 0
def busyM (ds : List RecD) (l k : Int) : Int := if clockB ds k = true ∧ 1 ≤ l ∧ l ≤ 6 then sumR (busyF l k) ds else -1
theorem clockB_parts {ds : List RecD} {k : Int} (h : clockB ds k = true) : ds.length ≤ 60 ∧ 0 ≤ k ∧ k ≤ 3600 ∧ ∀ d ∈ ds, recOk d = true ∧ d.f ≤ k ∧ d.h ≤ k ∧ d.t ≤ k := by
  simp only [clockB, validR, lateB, Bool.and_eq_true, decide_eq_true_eq, List.all_eq_true] at h
  exact ⟨h.1.1.1, h.1.2.1, h.1.2.2, fun d hd => ⟨h.1.1.2 d hd, h.2 d hd⟩⟩
theorem recOk_times {d : RecD} {k : Int} (h : recOk d = true) (hk : d.f ≤ k ∧ d.h ≤ k ∧ d.t ≤ k) (k1 : k ≤ 3600) : 1 ≤ d.c ∧ d.c ≤ 99 ∧ 1 ≤ d.l ∧ d.l ≤ 6 ∧ 0 ≤ d.f ∧ d.f ≤ 3600 ∧ -1 ≤ d.t ∧ d.t ≤ 3600 ∧ -1 ≤ d.h ∧ d.h ≤ 3600 ∧ (d.t ≠ -1 → d.f ≤ d.t) ∧ (d.h ≠ -1 → d.f ≤ d.h) ∧ 0 ≤ endF k d - d.f ∧ endF k d - d.f ≤ 3600 ∧ -1 ≤ endF k d ∧ endF k d ≤ 3600 := by
  have h' : recP d.c d.l d.o d.f d.h d.t d.e.toList := of_decide_eq_true h
  unfold recP at h'
  unfold endF
  split <;> omega
theorem busyF_bound {ds : List RecD} {l k : Int} (h : clockB ds k = true) : ∀ d ∈ ds, 0 ≤ busyF l k d ∧ busyF l k d ≤ 3600 := by
  intro d hd
  obtain ⟨_, _, k1, hall⟩ := clockB_parts h
  obtain ⟨h1, h2⟩ := hall d hd
  have := recOk_times h1 h2 k1
  unfold busyF
  split <;> omega
section
variable {w W W' : World} {a0 a1 a2 a3 a4 a5 a6 : Addr} {v0 v1 v2 v3 v4 v5 v6 : Value}
theorem held7_below (hb : Below W.heap.size W W')
    (h : W.cell? a0 = some v0 ∧ W.cell? a1 = some v1 ∧ W.cell? a2 = some v2 ∧ W.cell? a3 = some v3 ∧ W.cell? a4 = some v4 ∧ W.cell? a5 = some v5 ∧ W.cell? a6 = some v6 ∧ Below w.heap.size w W) :
    W'.cell? a0 = some v0 ∧ W'.cell? a1 = some v1 ∧ W'.cell? a2 = some v2 ∧ W'.cell? a3 = some v3 ∧ W'.cell? a4 = some v4 ∧ W'.cell? a5 = some v5 ∧ W'.cell? a6 = some v6 ∧ Below w.heap.size w W' := by
  have e : ∀ {a : Addr} {v : Value}, W.cell? a = some v → W'.cell? a = some v := fun {a v} hv => (World.cell?_of_block (hb.block _ (World.block_lt_of_cell? W _ hv))).trans hv
  obtain ⟨h0, h1, h2, h3, h4, h5, h6, h7⟩ := h
  exact ⟨e h0, e h1, e h2, e h3, e h4, e h5, e h6, below_step h7 hb⟩
theorem held7_drew 
    (h : W.cell? a0 = some v0 ∧ W.cell? a1 = some v1 ∧ W.cell? a2 = some v2 ∧ W.cell? a3 = some v3 ∧ W.cell? a4 = some v4 ∧ W.cell? a5 = some v5 ∧ W.cell? a6 = some v6 ∧ Below w.heap.size w W) :
    W.drew.cell? a0 = some v0 ∧ W.drew.cell? a1 = some v1 ∧ W.drew.cell? a2 = some v2 ∧ W.drew.cell? a3 = some v3 ∧ W.drew.cell? a4 = some v4 ∧ W.drew.cell? a5 = some v5 ∧ W.drew.cell? a6 = some v6 ∧ Below w.heap.size w W.drew := by
  obtain ⟨h0, h1, h2, h3, h4, h5, h6, h7⟩ := h
  exact ⟨h0, h1, h2, h3, h4, h5, h6, ⟨h7.os, h7.tape, h7.output, h7.size, h7.block⟩⟩
end
set_option maxHeartbeats 4000000 in
set_option maxRecDepth 20000 in
theorem spec_BusyMinutes (lo hi n c : Nat) (A : Option Addr) (ds : List RecD) (l q : Int) (w : World) (h : Slc w lo hi 7 A n c (recs ds)) (hn : n ≤ 1048576) :
    Calls Try.prog 10 #[.slice A n c, .int .i64 l, .int .i64 q] w fun e w' => e = .returned (.int .i64 (busyM ds l q)) ∧ Below w.heap.size w w' := by
  have hl := Lib.hid h.recLen
  obtain ⟨t, ht⟩ : ∃ t, t = clockB ds q := ⟨_, rfl⟩
  have HT := Lib.hid ht
  clear ht
  go_enter Try.func10, Try.ntmps10
  go_wp2_with fail
  refine (spec_l8Clock _ _ _ _ _ _ _ _ h hn).mono ?_
  rintro e w0 ⟨rfl, b0⟩
  rw [← HT.out]
  have h0 := h.below b0
  have B0 := below_step (Below.refl _ _) b0
  clear h b0
  cases t
  · clear h0
    go_wp2
    go_ret
    exact ⟨ret_int (by symm; unfold busyM; rw [← HT.out]; simp), B0⟩
  · by_cases hq : 1 ≤ l ∧ l ≤ 6
    · obtain ⟨q0, q1⟩ := hq
      have HB := Lib.hid (show inB l 1 6 = true by simp [inB, q0, q1])
      have HM := Lib.hid (show busyM ds l q = sumR (busyF l q) ds by unfold busyM; rw [if_pos ⟨HT.out.symm, q0, q1⟩])
      have HP := Lib.hid (clockB_parts HT.out.symm)
      have HS := Lib.hid (sumR_bound (busyF_bound (l := l) HT.out.symm))
      go_wp2_with ((go_at_call 31; refine (l1In_any _ _ _ _).mono ?_; rintro e w' ⟨rfl, hww⟩; obtain rfl := hww.symm; rw [HB.out]))
      go_loopw [7, 8] (fun s i wr => ∃ k : Nat, k ≤ n ∧ s = .int .i64 (sumR (busyF l q) (ds.take k)) ∧ i = .int .i64 k ∧ Below w0.heap.size w0 wr) (fun _ i _ => n - (intOf i).toNat)
      case atStart => exact ⟨0, Nat.zero_le _, by simp [sumR], rfl, Below.refl _ _⟩
      case round =>
        obtain ⟨k, hk, rfl, rfl, B⟩ := hrel
        by_cases hlt : k < n
        · obtain ⟨b, off, d, hA, _, _, h3, hxk, hv0, hv1, hv2, hv3, hv4, hv5, hv6⟩ := (h0.below B).rec7 hlt
          subst hA
          have HX := Lib.hid (sumR_succ (f := busyF l q) hxk)
          have hd := List.mem_of_getElem? hxk
          have HD := Lib.hid (HP.out.2.2.2 d hd)
          have hrt := recOk_times HD.out.1 HD.out.2 HP.out.2.2.1
          have hs := HS.out k
          have hl60 := HP.out.1
          have hll := hl.out
          have i0 : (0 : Int) ≤ (k : Int) := by omega
          have i1 : (k : Int) < (n : Int) := by omega
          by_cases hdl : d.l = l
          · subst hdl
            have HF := Lib.hid (show busyF d.l q d = endF q d - d.f by unfold busyF; rw [if_pos rfl])
            have HE := Lib.hid (show (if d.t < 0 then q else d.t) = endF q d by unfold endF; split <;> split <;> omega)
            obtain ⟨E, hE⟩ : ∃ E, E = endF q d := ⟨_, rfl⟩
            obtain ⟨s, hs'⟩ : ∃ s, s = sumR (busyF d.l q) (ds.take k) := ⟨_, rfl⟩
            rw [← hE] at HF HE hrt
            rw [← hs'] at HX hs ⊢
            have r0 : -9223372036854775808 ≤ s + E ∧ s + E ≤ 9223372036854775807 := by omega
            have r1 : -9223372036854775808 ≤ s + E - d.f ∧ s + E - d.f ≤ 9223372036854775807 := by omega
            have HR := Lib.hid hrt
            have W1 := (IntWalk.i64_left _).trans (IntWalk.wrap64_in _ r0)
            have W2 := (IntWalk.i64_left _).trans (IntWalk.wrap64_in _ r1)
            have S0 : wr.cell? ⟨b, off + k * 7, none⟩ = some (.int .i64 d.c) ∧ wr.cell? ⟨b, off + k * 7 + 1, none⟩ = some (.int .i64 d.l) ∧ wr.cell? ⟨b, off + k * 7 + 2, none⟩ = some (.int .i64 d.o) ∧ wr.cell? ⟨b, off + k * 7 + 3, none⟩ = some (.int .i64 d.f) ∧ wr.cell? ⟨b, off + k * 7 + 4, none⟩ = some (.int .i64 d.h) ∧ wr.cell? ⟨b, off + k * 7 + 5, none⟩ = some (.int .i64 d.t) ∧ wr.cell? ⟨b, off + k * 7 + 6, none⟩ = some (.string d.e) ∧ Below w0.heap.size w0 wr := ⟨hv0, hv1, hv2, hv3, hv4, hv5, hv6, B⟩
            clear hxk h0 hv0 hv1 hv2 hv3 hv4 hv5 hv6 h3 B hd hrt hs hl60 hll hE hs' r0 r1
            go_wp2_with fail
            go_region_held3 (fun W => W.cell? ⟨b, off + k * 7, none⟩ = some (.int .i64 d.c) ∧ W.cell? ⟨b, off + k * 7 + 1, none⟩ = some (.int .i64 d.l) ∧ W.cell? ⟨b, off + k * 7 + 2, none⟩ = some (.int .i64 d.o) ∧ W.cell? ⟨b, off + k * 7 + 3, none⟩ = some (.int .i64 d.f) ∧ W.cell? ⟨b, off + k * 7 + 4, none⟩ = some (.int .i64 d.h) ∧ W.cell? ⟨b, off + k * 7 + 5, none⟩ = some (.int .i64 d.t) ∧ W.cell? ⟨b, off + k * 7 + 6, none⟩ = some (.string d.e) ∧ Below w0.heap.size w0 W)
              (first | exact held7_drew S0 | exact held7_below (by assumption) (by assumption) | exact held7_drew (by assumption))
              (first | (go_at_call 32; refine (spec_l8To d q _).mono ?_; rintro x w2 ⟨rfl, b2⟩; rw [HE.out]))
            have S2 : Below w0.heap.size w0 w2 := by
              have S1 : w2.cell? ⟨b, off + k * 7, none⟩ = some (.int .i64 d.c) ∧ w2.cell? ⟨b, off + k * 7 + 1, none⟩ = some (.int .i64 d.l) ∧ w2.cell? ⟨b, off + k * 7 + 2, none⟩ = some (.int .i64 d.o) ∧ w2.cell? ⟨b, off + k * 7 + 3, none⟩ = some (.int .i64 d.f) ∧ w2.cell? ⟨b, off + k * 7 + 4, none⟩ = some (.int .i64 d.h) ∧ w2.cell? ⟨b, off + k * 7 + 5, none⟩ = some (.int .i64 d.t) ∧ w2.cell? ⟨b, off + k * 7 + 6, none⟩ = some (.string d.e) ∧ Below w0.heap.size w0 w2 := by assumption
              exact S1.2.2.2.2.2.2.2
            clear S0
            have HN := Lib.hid (show s + E - d.f = sumR (busyF d.l q) (ds.take (k + 1)) by rw [HX.out, HF.out]; omega)
            clear W1 W2
            go_wp2
            go_roundw
            case rel => exact ⟨k + 1, by omega, by rw [HN.out], by go_num, S2⟩
            case measure => simp [intOf]; omega
          · have HF := Lib.hid (show busyF l q d = 0 by unfold busyF; rw [if_neg hdl])
            clear hxk h0 hv0 hv2 hv3 hv4 hv5 hv6 h3 hd hrt hs hl60 hll
            go_wp2
            go_roundw
            case rel => exact ⟨k + 1, by omega, by rw [HX.out, HF.out, Int.add_zero], by go_num, B⟩
            case measure => simp [intOf]; omega
        · have e : n = k := by omega
          subst e
          have HE := Lib.hid (show ds.take n = ds by rw [List.take_of_length_le (by rw [hl.out]; exact Nat.le_refl _)])
          clear h0
          go_wp2
          go_ret
          exact ⟨ret_int (by rw [HM.out, HE.out]), B0.trans (B.mono B0.size)⟩
    · have HQ := Lib.hid (show inB l 1 6 = false by rw [← Bool.not_eq_true]; simpa [inB] using hq)
      have HM := Lib.hid (show busyM ds l q = -1 by unfold busyM; rw [if_neg (fun x => hq x.2)])
      clear hq h0
      go_wp2_with ((go_at_call 31; refine (l1In_any _ _ _ _).mono ?_; rintro e w' ⟨rfl, hww⟩; obtain rfl := hww.symm; rw [HQ.out]))
      go_ret
      exact ⟨ret_int HM.out.symm, B0⟩
end Go.Proofs.Ytjcpjijihajopaa
