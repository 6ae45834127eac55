/-
  The walk of the law FnShare.
-/
import Derived.Test.YtgcnhojiaaonmaaShareL
import Derived.Test.YtgcnhojiaaonmaaDrawS
import Derived.Test.YtgcnhojiaaonmaaCb
import Derived.Test.YtgcnhojiaaonmaaLawShare
namespace Go.Proofs.Ytgcnhojiaaonmaa
open Go.RowKit
set_option linter.unusedVariables false
theorem PB.take {b : Int} {l : List Int} (hb0 : 0 ≤ b) (h : PB b l) : ∀ k, 0 ≤ (l.take k).sum ∧ (l.take k).sum ≤ b * k := by
  intro k
  induction k with
  | zero => simp
  | succ k ih =>
    rcases Nat.lt_or_ge k l.length with hk | hk
    · rw [sum_take_succ (List.getElem?_eq_getElem hk)]
      have := h.get (List.getElem?_eq_getElem hk)
      have e : b * ((k + 1 : Nat) : Int) = b * k + b := by rw [Int.natCast_succ, Int.mul_add, Int.mul_one]
      omega
    · have e : l.take (k + 1) = l.take k := by rw [List.take_of_length_le (by omega), List.take_of_length_le hk]
      rw [e]
      have e : b * ((k + 1 : Nat) : Int) = b * k + b := by rw [Int.natCast_succ, Int.mul_add, Int.mul_one]
      omega
theorem Shares.pb {ch S : Int} {ws ps : List Int} (h : Shares ch S ws ps) (h0 : 0 ≤ ch) (h1 : ch ≤ 1000000) (hall : ws.all weightB = true) (hS : 1 ≤ S) : PB 1000000001 ps := by
  intro x hx
  obtain ⟨i, hi, rfl⟩ := List.mem_iff_getElem.1 hx
  have hi' : i < ws.length := by rw [← h.len]; exact hi
  have hl := h.low i hi'
  have e1 : ps.getD i 0 = ps[i] := by rw [List.getD_eq_getElem?_getD, List.getElem?_eq_getElem hi]; rfl
  have e2 : ws.getD i 0 = ws[i] := by rw [List.getD_eq_getElem?_getD, List.getElem?_eq_getElem hi']; rfl
  have hw := weight_of hall (List.getElem?_eq_getElem hi')
  have hp := part_bound h0 h1 hw.1 hw.2 hS
  rw [e1, e2] at hl
  omega
theorem gD {l : List Int} {k : Nat} {x : Int} (h : l[k]? = some x) : l.getD k 0 = x := by rw [List.getD_eq_getElem?_getD, h]; rfl
set_option maxHeartbeats 4000000 in
set_option maxRecDepth 100000 in
theorem walk_Share (A : Option Addr) (n c : Nat) (w : World) (h : Code w A n c) :
    Calls Try.prog 11 #[.slice A n c] w fun e w' => e = .returned (.bool true) ∧ Below w.heap.size w w' := by
  have hl := h.le
  have hcm := h.cap
  unfold maxLen at hcm
  by_cases hn : 1048576 < n
  · clear h
    go_enter Try.func11, Try.ntmps11
    go_wp2
    go_ret
    exact ⟨rfl, Below.refl _ _⟩
  · go_enter Try.func11, Try.ntmps11
    go_wp2_with fail
    refine (DrawShareCharge_any _ _ _ _ h).mono ?_
    rintro e w1 ⟨ch, A1, n1, c1, ws, rfl, o1, l1, b1⟩
    clear h
    have s1 := o1.slc
    clear o1
    go_wp2_with fail
    refine (impl_ShareCharge _ _ _ _ _ _ _ _ s1).mono ?_
    rintro e w2 ⟨A2, n2, c2, rfl, o2, b2⟩
    have B2 := below_step b1 b2
    have s2 := s1.below b2
    clear s1 b1 b2
    go_wp2_with fail
    refine (spec_ShareCharge _ _ _ _ _ _ _ _ s2 (by omega)).mono ?_
    rintro e w3 ⟨A3, n3, c3, rfl, o3, b3⟩
    have B3 := below_step B2 b3
    have s3 := s2.below b3
    have p3 := o2.slc.below b3
    have q3 := o3.slc
    have hlen := share_len ch ws
    have e2 := p3.length
    have e3 := q3.length
    have n2le : n2 ≤ 10 := by omega
    have n3le : n3 ≤ 10 := by omega
    have HEQ := Lib.hid (beq_self_eq_true (if shareB ch ws = true then shareF ch ws else []))
    clear s2 b3 o2 o3 B2 hlen e2 e3
    go_wp2_with fail
    refine (cbSame_any _ _ _ _ _ _ _ _ _ _ _ _ _ p3 q3 (by omega) (by omega)).mono ?_
    rintro e w4 ⟨rfl, m4, rfl⟩
    rw [HEQ.out]
    have B4 := below_drewN B3 m4
    by_cases hb : shareB ch ws = true
    · obtain ⟨⟨c0, cmax, wl⟩, hall, hS0⟩ := shareB_yes hb
      have hSb := sum_bound hall wl
      have hS1 : 1 ≤ ws.sum := by omega
      have hsh := shares_of (ch := ch) c0 hS1
      have hpb := hsh.pb c0 cmax hall hS1
      have HP := Lib.hid (PB.take (by omega) hpb)
      have HW := Lib.hid (sum_take_bound hall)
      have HPB := Lib.hid hpb
      have HALL := Lib.hid hall
      have HSH := Lib.hid hsh
      have hx : (if shareB ch ws = true then shareF ch ws else []) = shareF ch ws := if_pos hb
      rw [hx] at p3
      rw [hb]
      clear hx hb q3 hpb hall hsh hS0
      obtain ⟨ps, hps⟩ : ∃ ps, ps = shareF ch ws := ⟨_, rfl⟩
      obtain ⟨S, hS⟩ : ∃ S, S = ws.sum := ⟨_, rfl⟩
      rw [← hps] at p3 HP HPB HSH
      rw [← hS] at HW HSH hSb hS1
      have HS := Lib.hid hS
      have hpl := p3.length
      have hwl := s3.length
      have hle := HSH.out.len
      have hnn : n2 = n1 := by omega
      have HPL := Lib.hid hpl
      have HWL := Lib.hid hwl
      have n1le : n1 ≤ 10 := by omega
      have hne : (S == 0) = false := by rw [beq_eq_false_iff_ne]; omega
      subst hnn
      clear hps hS hpl hwl hle wl
      go_wp2
      go_loopw [9, 10, 11] (fun a b i wr => ∃ (k : Nat) (x y : Int), k ≤ n2 ∧ i = .int .i64 k ∧ a = .int .i64 x ∧ b = .int .i64 y ∧ x = (ps.take k).sum ∧ y = (ws.take k).sum ∧ wr = w3.drewN m4) (fun _ _ i _ => n2 - (intOf i).toNat)
      case atStart => exact ⟨0, 0, 0, Nat.zero_le _, rfl, rfl, rfl, by simp, by simp, rfl⟩
      case round =>
        obtain ⟨k, x, y, hk, rfl, rfl, rfl, hx, hy, rfl⟩ := hrel
        have HX := Lib.hid hx
        have HY := Lib.hid hy
        have bx := HP.out k
        have by_ := HW.out k
        rw [← hx] at bx
        rw [← hy] at by_
        obtain ⟨bx0, bx1⟩ := bx
        obtain ⟨by0, by1, by2⟩ := by_
        have bx2 : x ≤ 10000000010 := by
          have : (1000000001 : Int) * k ≤ 1000000001 * 10 := Int.mul_le_mul_of_nonneg_left (by omega) (by omega)
          omega
        clear hx hy bx1 by1
        by_cases hlt : k < n2
        · obtain ⟨b, off, v, rfl, _, _, h3, hxk, hv⟩ := p3.cellAt hlt
          obtain ⟨b', off', v', rfl, _, _, h3', hxk', hv'⟩ := s3.cellAt hlt
          have vb := HPB.out.get hxk
          have vb' := weight_of HALL.out hxk'
          have HX2 := Lib.hid (sum_take_succ hxk)
          have HY2 := Lib.hid (sum_take_succ hxk')
          clear hxk hxk' p3 s3
          have i0 : (0 : Int) ≤ (k : Int) := by omega
          have i1 : (k : Int) < (n2 : Int) := by omega
          obtain ⟨v0, v1⟩ := vb
          obtain ⟨v0', v1'⟩ := vb'
          go_wp2
          go_roundw
          case rel => exact ⟨k + 1, x + v, y + v', by omega, by go_num, rfl, rfl, by rw [HX2.out, HX.out], by rw [HY2.out, HY.out], trivial⟩
          case measure => simp [intOf]; omega
        · have e : n2 = k := by omega
          subst e
          have hxs : x = ch := by rw [HX.out, List.take_of_length_le (by rw [HPL.out]; exact Nat.le_refl _), HSH.out.sum]
          have hys : y = S := by rw [HY.out, List.take_of_length_le (by rw [HWL.out]; exact Nat.le_refl _), HS.out]
          subst hxs hys
          clear hlt hk bx0 bx2 by0 by2 HX HY
          have W0 := Lib.hid (fun m : Nat => below_drewN B3 m)
          clear B4
          go_wp2
          go_loopw [12] (fun i wr => ∃ k : Nat, k ≤ n2 ∧ i = .int .i64 k ∧ ∃ m, wr = w3.drewN m) (fun i _ => n2 - (intOf i).toNat)
          case atStart => exact ⟨0, Nat.zero_le _, rfl, m4, rfl⟩
          case round =>
            obtain ⟨i, hi, rfl, m, rfl⟩ := hrel
            by_cases hlt : i < n2
            · obtain ⟨b, off, v, rfl, _, _, h3, hxk, hv⟩ := p3.cellAt hlt
              obtain ⟨b', off', v', rfl, _, _, h3', hxk', hv'⟩ := s3.cellAt hlt
              have vb := HPB.out.get hxk
              have vb' := weight_of HALL.out hxk'
              have low := HSH.out.low i (by rw [HWL.out]; exact hlt)
              have non := HSH.out.none i (by rw [HWL.out]; exact hlt)
              rw [gD hxk, gD hxk'] at low non
              have hpb2 := prod_bound c0 cmax vb'.1 vb'.2
              obtain ⟨q0, q1⟩ := part_bound c0 cmax vb'.1 vb'.2 hS1
              obtain ⟨pb0, pb1⟩ := hpb2
              obtain ⟨l0, l1⟩ := low
              have HXK := Lib.hid hxk
              have HXK' := Lib.hid hxk'
              have i0 : (0 : Int) ≤ (i : Int) := by omega
              have i1 : (i : Int) < (n2 : Int) := by omega
              clear hxk hxk'
              have h01 : ¬ v < x * v' / y := by omega
              have h02 : ¬ x * v' / y + 1 < v := by omega
              have hcond : (v' == 0 && v != 0) = false := by
                by_cases hz : v' = 0
                · have := non hz
                  simp [this]
                · simp [hz]
              have hcase : (v' = 0 ∧ v = 0) ∨ (v' ≠ 0) := by
                by_cases hz : v' = 0
                · exact .inl ⟨hz, non hz⟩
                · exact .inr hz
              clear hcond non
              have hb1 : (v' = 0 ∧ (v' == 0) = true ∧ (v != 0) = false) ∨ ((v' == 0) = false) := by
                rcases hcase with ⟨a, b⟩ | a
                · exact .inl ⟨a, by simp [a], by simp [b]⟩
                · exact .inr (by simp [a])
              clear hcase
              have hb2 : ((v' == 0) = true ∧ (v != 0) = false) ∨ ((v' == 0) = false) := hb1.imp (fun x => x.2) id
              clear hb1
              rcases hb2 with ⟨z1, z2⟩ | z1
              all_goals
                go_wp2
                go_loopw [14] (fun j wr => ∃ k : Nat, k ≤ i ∧ j = .int .i64 k ∧ ∃ m, wr = w3.drewN m) (fun j _ => i - (intOf j).toNat)
                case atStart => exact ⟨0, Nat.zero_le _, rfl, m, rfl⟩
                case round =>
                  obtain ⟨k, hk, rfl, m', rfl⟩ := hrel
                  by_cases hki : k < i
                  · obtain ⟨bb, ofb, u, hA2, _, _, _, hxu, hu⟩ := p3.cellAt (show k < n2 by omega)
                    obtain ⟨bb', ofb', u', hA1, _, _, _, hxu', hu'⟩ := s3.cellAt (show k < n2 by omega)
                    injection hA2 with hA2
                    injection hA1 with hA1
                    injection hA2 with hA2 hA2'
                    injection hA1 with hA1 hA1'
                    subst hA2 hA2' hA1 hA1'
                    have ord := HSH.out.ord k i hki (by rw [HWL.out]; exact hlt)
                    rw [gD HXK.out, gD HXK'.out, gD hxu, gD hxu'] at ord
                    clear hxu hxu'
                    have j0 : (0 : Int) ≤ (k : Int) := by omega
                    have j1 : (k : Int) < (n2 : Int) := by omega
                    by_cases hge : v' ≤ u'
                    · have hge2 : ¬ u < v := by have := ord hge; omega
                      have hge3 : v ≤ u := by omega
                      have hg : decide (v' ≤ u') = true := by simpa using hge
                      clear ord
                      go_wp2
                      go_quiet (fail)
                      go_wp2
                      go_roundw
                      case rel => exact ⟨k + 1, by omega, by go_num, _, rfl⟩
                      case measure => simp [intOf]; omega
                    · have hg : decide (v' ≤ u') = false := by simpa using hge
                      have hg2 : u' < v' := by omega
                      clear ord
                      go_wp2
                      go_quiet (fail)
                      go_wp2
                      go_roundw
                      case rel => exact ⟨k + 1, by omega, by go_num, _, rfl⟩
                      case measure => simp [intOf]; omega
                  · go_wp2
                    go_roundw
                    case rel => exact ⟨i + 1, by omega, by go_num, _, rfl⟩
                    case measure => simp [intOf]; omega
            · have e : n2 = i := by omega
              subst e
              clear p3 s3
              have hxx : (x == x) = true := beq_self_eq_true x
              go_wp2
              go_ret
              exact ⟨rfl, W0.out _⟩
    · have hb' : shareB ch ws = false := by simpa using hb
      clear hb
      have HB := Lib.hid hb'
      have p4 := p3.drewN m4
      have q4 := q3.drewN m4
      clear hb' p3 q3 s3
      rw [HB.out]
      go_wp2_with fail
      refine (cbSame_any _ _ _ _ _ _ _ _ _ _ _ _ _ p4 q4 (by omega) (by omega)).mono ?_
      rintro e w5 ⟨rfl, m5, rfl⟩
      rw [HEQ.out]
      clear p4 q4
      go_wp2
      go_ret
      exact ⟨rfl, by first | exact below_drewN B4 _ | exact below_drewN B3 _⟩
end Go.Proofs.Ytgcnhojiaaonmaa
