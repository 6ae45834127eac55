/-
  The walk of the law FnFaultTicks.
-/
import Derived.Test.YtgcnhojiaaonmaaDrawT
import Derived.Test.YtgcnhojiaaonmaaCb
import Derived.Test.YtgcnhojiaaonmaaLawNeed
import Derived.IntWalk
namespace Go.Proofs.Ytgcnhojiaaonmaa
open Go.RowKit
set_option linter.unusedVariables false
theorem winF_mono (l : List Int) {d d' t : Int} (h : d' ≤ d) : winF l d t ≤ winF l d' t := by
  induction l with
  | nil => simp [winF]
  | cons x l ih =>
    unfold winF at ih ⊢
    rw [List.countP_cons, List.countP_cons]
    by_cases h1 : d < x
    · have : d' < x := by omega
      by_cases h2 : x ≤ t <;> simp [h1, h2, this] <;> omega
    · simp [h1]; omega
/-- The law's: the greatest of the entries' windows. -/
def needM (ticks : Int) (l : List Int) : Nat → Nat
  | 0 => 0
  | k + 1 => max (needM ticks l k) (winF l (l.getD k 0 - ticks) (l.getD k 0))
theorem needM_le (ticks : Int) (l : List Int) (M : Nat) : ∀ k, k ≤ l.length → (∀ x ∈ l, winF l (x - ticks) x ≤ M) → needM ticks l k ≤ M := by
  intro k
  induction k with
  | zero => intro _ _; exact Nat.zero_le _
  | succ k ih =>
    intro hk h
    refine Nat.max_le.2 ⟨ih (by omega) h, h _ ?_⟩
    rw [List.getD_eq_getElem?_getD, List.getElem?_eq_getElem (by omega)]
    exact List.getElem_mem _
theorem win_le_needM (ticks : Int) (l : List Int) : ∀ k j, j < k → winF l (l.getD j 0 - ticks) (l.getD j 0) ≤ needM ticks l k := by
  intro k
  induction k with
  | zero => intro j h; omega
  | succ k ih =>
    intro j h
    unfold needM
    by_cases e : j = k
    · subst e; exact Nat.le_max_right ..
    · exact Nat.le_trans (ih j (by omega)) (Nat.le_max_left ..)
theorem needM_eq (ticks : Int) (h0 : 0 ≤ ticks) (l : List Int) (hs : sorted l) : needM ticks l l.length = needS ticks l l.length := by
  refine Nat.le_antisymm (needM_le _ _ _ _ (Nat.le_refl _) fun x _ => win_le_needS ticks h0 l hs x) (needS_le _ _ _ hs fun x hx => ?_)
  obtain ⟨j, hj, e⟩ := List.mem_iff_getElem.1 hx
  have := win_le_needM ticks l l.length j hj
  rw [List.getD_eq_getElem?_getD, List.getElem?_eq_getElem hj] at this
  simpa [e] using this
theorem needS_mono {t t' : Int} (h0 : 0 ≤ t) (h : t ≤ t') (l : List Int) (hs : sorted l) : needS t l l.length ≤ needS t' l l.length :=
  needS_le _ _ _ hs fun x _ => Nat.le_trans (winF_mono l (by omega)) (win_le_needS t' (by omega) l hs x)
theorem winF_all (l : List Int) {d t : Int} (h : ∀ x ∈ l, d < x ∧ x ≤ t) : winF l d t = l.length := by
  unfold winF; rw [List.countP_eq_length]; intro x hx; have := h x hx; simp [this]
theorem needS_all (l : List Int) (hs : sorted l) (hb : ∀ x ∈ l, 0 ≤ x ∧ x < 20) : needS 20 l l.length = l.length := by
  refine Nat.le_antisymm (needS_le_len _ _ _) ?_
  rcases List.eq_nil_or_concat l with h | ⟨l', x, h⟩
  · subst h; simp
  · have hx : x ∈ l := by rw [h]; simp
    have hm : ∀ y ∈ l, y ≤ x := by
      intro y hy
      rw [h] at hs hy
      rw [List.concat_eq_append] at hs hy
      have hp := List.pairwise_append.1 hs
      rcases List.mem_append.1 hy with h1 | h1
      · exact hp.2.2 y h1 x (by simp)
      · simp at h1; omega
    have := win_le_needS 20 (by omega) l hs x
    rw [winF_all l fun y hy => ⟨by have := hb x hx; have := hb y hy; omega, hm y hy⟩] at this
    exact this
theorem ticksF_facts {xss : List (List Int)} (h : tasksB xss = true) : sorted (ticksF xss) ∧ ∀ x ∈ ticksF xss, 0 ≤ x ∧ x < 20 := by
  rw [ticksF, if_pos h]
  obtain ⟨t1, t2, t3⟩ := tasksB_facts h
  have := longF_le t3
  exact ⟨faultsUpto_sorted _ _, fun x hx => by have := faultsUpto_mem hx; omega⟩
theorem winF_take {l : List Int} {k : Nat} {x d t : Int} (h : l[k]? = some x) : winF (l.take (k + 1)) d t = winF (l.take k) d t + if d < x ∧ x ≤ t then 1 else 0 := by rw [take_snoc' h, winF_snoc]
theorem needF_yes {t : Int} {xss : List (List Int)} (h : tasksB xss = true) (h1 : 1 ≤ t) (h2 : t ≤ 20) : needF t xss = (needS t (ticksF xss) (ticksF xss).length : Nat) := by rw [needF, if_pos ⟨h, h1, h2⟩]
theorem needF_no {t : Int} {xss : List (List Int)} (h : ¬ (tasksB xss = true ∧ 1 ≤ t ∧ t ≤ 20)) : needF t xss = -1 := by rw [needF, if_neg h]
theorem needM_succ {ticks : Int} {l : List Int} {k : Nat} {x : Int} (h : l[k]? = some x) : needM ticks l (k + 1) = max (needM ticks l k) (winF l (x - ticks) x) := by
  show max (needM ticks l k) (winF l (l.getD k 0 - ticks) (l.getD k 0)) = _
  rw [List.getD_eq_getElem?_getD, h]; rfl
set_option maxHeartbeats 4000000 in
set_option maxRecDepth 100000 in
theorem walk_FaultTicksL (A : Option Addr) (n c : Nat) (w : World) (h : Code w A n c) :
    Calls Try.prog 14 #[.slice A n c] w fun e w' => e = .returned (.bool true) ∧ Below w.heap.size w w' := by
  have hl := h.le
  have hcm := h.cap
  unfold maxLen at hcm
  by_cases hn : 1048576 < n
  · clear h
    go_enter Try.func14, Try.ntmps14
    go_wp2
    go_ret
    exact ⟨rfl, Below.refl _ _⟩
  · go_enter Try.func14, Try.ntmps14
    go_wp2_with fail
    refine (DrawFaultsNeeded_any _ _ _ _ h).mono ?_
    rintro e w1 ⟨t, A1, n1, c1, rs, rfl, m1, l1, hr, b1⟩
    clear h
    have HR := Lib.hid (show ∀ r ∈ rs, r.n ≤ 1048576 from fun r hx => by have := hr r hx; omega)
    clear hr
    obtain ⟨xss, hxss⟩ : ∃ xss, xss = rs.map Row.xs := ⟨_, rfl⟩
    have HXS := Lib.hid hxss
    clear hxss
    go_wp2_with fail
    refine (impl_FaultsNeeded _ _ _ _ _ _ _ _ _ _ m1 (by omega) HR.out).mono ?_
    rintro e w2 ⟨rfl, b2⟩
    rw [← HXS.out]
    have B2 := below_step b1 b2
    have m2 := m1.below b2
    clear m1 b1 b2
    go_wp2_with fail
    refine (impl_FaultTicks _ _ _ _ _ _ _ _ _ m2 (by omega) HR.out).mono ?_
    rintro e w3 ⟨A3, n3, c3, rfl, o3, b3⟩
    rw [← HXS.out] at o3 ⊢
    have B3 := below_step B2 b3
    have m3 := m2.below b3
    have p3 := o3.slc
    clear m2 B2 b3 o3
    go_wp2_with fail
    refine (spec_FaultTicks _ _ _ _ _ _ _ _ _ m3 (by omega) HR.out).mono ?_
    rintro e w4 ⟨A4, n4, c4, rfl, o4, b4⟩
    rw [← HXS.out] at o4 ⊢
    have B4 := below_step B3 b4
    have m4 := m3.below b4
    have p4 := p3.below b4
    have q4 := o4.slc
    have hfl := ticksF_len xss
    have l3 : n3 ≤ 1048576 := by have := p3.length; omega
    have l4 : n4 ≤ 1048576 := by have := q4.length; omega
    have HEQ := Lib.hid (beq_self_eq_true (ticksF xss))
    clear m3 B3 b4 o4 p3
    go_wp2_with fail
    refine (spec_FaultsNeeded _ _ _ _ _ _ _ _ _ _ m4 (by omega) HR.out).mono ?_
    rintro e w5 ⟨rfl, b5⟩
    rw [← HXS.out]
    have B5 := below_step B4 b5
    have m5 := m4.below b5
    have p5 := p4.below b5
    have q5 := q4.below b5
    clear m4 B4 b5 p4 q4
    by_cases hv : tasksB xss = true ∧ 1 ≤ t ∧ t ≤ 20
    · obtain ⟨hT, ht1, ht2⟩ := hv
      have HT := Lib.hid hT
      obtain ⟨hs, hb⟩ := ticksF_facts hT
      have HN := Lib.hid (needF_yes hT ht1 ht2)
      have HSO := Lib.hid hs
      have HBO := Lib.hid hb
      obtain ⟨N, hN⟩ : ∃ N, N = needS t (ticksF xss) (ticksF xss).length := ⟨_, rfl⟩
      rw [HN.out, HT.out, ← hN]
      have HNN := Lib.hid hN
      have hNle := needS_le_len t (ticksF xss) (ticksF xss).length
      rw [← hN] at hNle
      have hFl := hfl
      clear hT hs hb hN
      have t0 : ((N : Int) != N) = false := by simp
      have t1 : ¬ ((N : Int) < 0) := by omega
      go_wp2_with fail
      refine (cbSame_any _ _ _ _ _ _ _ _ _ _ _ _ _ p5 q5 l3 l4).mono ?_
      rintro e w6 ⟨rfl, k6, rfl⟩
      rw [HEQ.out]
      have B6 := below_drewN B5 k6
      have m6 := m5.drewN k6
      have p6 := p5.drewN k6
      clear B5 m5 p5 q5
      go_wp2_with fail
      refine (impl_TasksValid _ _ _ _ _ _ _ _ _ m6 (by omega) HR.out).mono ?_
      rintro e w7 ⟨rfl, rfl⟩
      rw [← HXS.out, HT.out]
      go_wp2_with fail
      refine (impl_TasksValid _ _ _ _ _ _ _ _ _ m6 (by omega) HR.out).mono ?_
      rintro e w7 ⟨rfl, rfl⟩
      rw [← HXS.out, HT.out]
      go_wp2_with fail
      refine (spec_TasksValid _ _ _ _ _ _ _ _ _ m6 (by omega) HR.out).mono ?_
      rintro e w7 ⟨rfl, rfl⟩
      rw [← HXS.out, HT.out]
      clear t0 t1
      obtain ⟨W, hW⟩ : ∃ W, W = w5.drewN k6 := ⟨_, rfl⟩
      rw [← hW] at B6 m6 p6 ⊢
      clear hW
      obtain ⟨F, hF⟩ : ∃ F, F = ticksF xss := ⟨_, rfl⟩
      rw [← hF] at p6 HSO HBO HNN hNle hFl
      have HF := Lib.hid hF
      have hFn := p6.length
      have HFN := Lib.hid hFn
      clear hF hfl hFn
      have HBW := Lib.hid B6
      have HMW := Lib.hid m6
      clear B6 m6
      go_wp2
      go_loopw [10, 11] (fun a i wr => ∃ k : Nat, k ≤ n3 ∧ i = .int .i64 k ∧ (∃ m : Nat, a = .int .i64 m ∧ m ≤ n3 ∧ m = needM t F k) ∧ ∃ d, wr = W.drewN d) (fun _ i _ => n3 - (intOf i).toNat)
      case atStart => exact ⟨0, Nat.zero_le _, rfl, ⟨0, rfl, Nat.zero_le _, rfl⟩, 0, rfl⟩
      case round =>
        obtain ⟨k, hk, rfl, ⟨m, rfl, hm, hmm⟩, d, rfl⟩ := hrel
        have HM := Lib.hid hmm
        clear hmm
        by_cases hlt : k < n3
        · obtain ⟨b, off, x, rfl, _, _, h3, hxk, hv⟩ := p6.cellAt hlt
          have HX := Lib.hid hxk
          have hxb := HBO.out x (List.mem_of_getElem? hxk)
          obtain ⟨x0, x1⟩ := hxb
          clear hxk
          have i0 : (0 : Int) ≤ (k : Int) := by omega
          have i1 : (k : Int) < (n3 : Int) := by omega
          go_wp2
          go_loopw [12, 13] (fun a i wr => ∃ j : Nat, j ≤ n3 ∧ i = .int .i64 j ∧ (∃ p : Nat, a = .int .i64 p ∧ p ≤ j ∧ p = winF (F.take j) (x - t) x) ∧ ∃ d, wr = W.drewN d) (fun _ i _ => n3 - (intOf i).toNat)
          case atStart => exact ⟨0, Nat.zero_le _, rfl, ⟨0, rfl, Nat.zero_le _, by simp [winF]⟩, d, rfl⟩
          case round =>
            obtain ⟨j, hj, rfl, ⟨p, rfl, hp, hpp⟩, d', rfl⟩ := hrel
            have HP := Lib.hid hpp
            clear hpp
            by_cases hlj : j < n3
            · obtain ⟨b', off', y, hA, _, _, _, hyk, hy⟩ := p6.cellAt hlj
              injection hA with hA
              injection hA with hA hA'
              subst hA hA'
              have hyb := HBO.out y (List.mem_of_getElem? hyk)
              obtain ⟨y0, y1⟩ := hyb
              have HY := Lib.hid (winF_take (d := x - t) (t := x) hyk)
              clear hyk
              have j0 : (0 : Int) ≤ (j : Int) := by omega
              have j1 : (j : Int) < (n3 : Int) := by omega
              by_cases hyx : y ≤ x
              · have c1 : decide (y ≤ x) = true := by simpa using hyx
                have w1 : IntKind.i64.wrap (x - t) = x - t := IntWalk.i64_in _ (by omega)
                by_cases hxt : x - t < y
                · have c2 : decide (x - t < y) = true := by simpa using hxt
                  go_wp2
                  go_quiet (fail)
                  clear w1
                  go_wp2
                  go_roundw
                  case rel => exact ⟨j + 1, by omega, by go_num, ⟨p + 1, by go_num, by omega, by rw [HY.out, if_pos ⟨hxt, hyx⟩, HP.out]⟩, _, rfl⟩
                  case measure => simp [intOf]; omega
                · have c2 : decide (x - t < y) = false := by simpa using hxt
                  go_wp2
                  go_quiet (fail)
                  clear w1
                  go_wp2
                  go_roundw
                  case rel => exact ⟨j + 1, by omega, by go_num, ⟨p, rfl, by omega, by rw [HY.out, if_neg (by omega), HP.out, Nat.add_zero]⟩, _, rfl⟩
                  case measure => simp [intOf]; omega
              · have c1 : decide (y ≤ x) = false := by simpa using hyx
                go_wp2
                go_quiet (fail)
                go_wp2
                go_roundw
                case rel => exact ⟨j + 1, by omega, by go_num, ⟨p, rfl, by omega, by rw [HY.out, if_neg (by omega), HP.out, Nat.add_zero]⟩, _, rfl⟩
                case measure => simp [intOf]; omega
            · have e : n3 = j := by omega
              have HPE := Lib.hid (show p = winF F (x - t) x by rw [HP.out, List.take_of_length_le (by rw [HFN.out]; omega)])
              have HMS := Lib.hid (needM_succ (ticks := t) HX.out)
              have hmx : max m p ≤ n3 := Nat.max_le.2 ⟨hm, by omega⟩
              clear e
              go_wp2
              go_roundw
              case rel => exact ⟨k + 1, by omega, by go_num, ⟨max m p, by rw [max_if], hmx, by rw [HMS.out, HM.out, HPE.out]⟩, _, rfl⟩
              case measure => simp [intOf]; omega
        · have e : n3 = k := by omega
          subst e
          have hmN : m = N := by rw [HM.out, ← HFN.out, needM_eq t (by omega) F HSO.out, HNN.out]
          subst hmN
          clear p6 hlt hk
          have HALL := Lib.hid (needS_all F HSO.out HBO.out)
          have HN20 := Lib.hid (needF_yes HT.out (t := 20) (by omega) (by omega))
          have z0 : ((m : Int) == m) = true := by simp
          have z1 : ((n3 : Int) == n3) = true := by simp
          have W0 := HBW.out
          have M0 := HMW.out.drewN d
          have W1 := below_drewN W0 d
          clear W0
          by_cases h20 : t < 20
          · have HNX := Lib.hid (needF_yes HT.out (t := t + 1) (by omega) (by omega))
            have HMO := Lib.hid (needS_mono (t := t) (t' := t + 1) (by omega) (by omega) F HSO.out)
            go_wp2_with fail
            refine (impl_FaultsNeeded _ _ _ _ _ _ _ _ _ _ M0 (by omega) HR.out).mono ?_
            rintro e w7 ⟨rfl, b7⟩
            rw [← HXS.out, HNX.out, ← HF.out]
            obtain ⟨L, hL⟩ : ∃ L, L = needS (t + 1) F F.length := ⟨_, rfl⟩
            rw [← hL]
            have hLN : m ≤ L := by rw [hL, HNN.out]; exact HMO.out
            have HL := Lib.hid hL
            have B7 := below_step W1 b7
            have M7 := M0.below b7
            clear hL b7 W1 M0
            have g0 : ((m : Int) ≤ (L : Int)) := by omega
            go_wp2_with fail
            refine (impl_FaultsNeeded _ _ _ _ _ _ _ _ _ _ M7 (by omega) HR.out).mono ?_
            rintro e w8 ⟨rfl, b8⟩
            rw [← HXS.out, HN20.out, ← HF.out, HALL.out, HFN.out]
            have B8 := below_step B7 b8
            clear M7 b8
            go_wp2
            go_ret
            exact ⟨rfl, B8⟩
          · have g0 : ((m : Int) ≤ (m : Int)) := by omega
            go_wp2_with fail
            refine (impl_FaultsNeeded _ _ _ _ _ _ _ _ _ _ M0 (by omega) HR.out).mono ?_
            rintro e w8 ⟨rfl, b8⟩
            rw [← HXS.out, HN20.out, ← HF.out, HALL.out, HFN.out]
            have B8 := below_step W1 b8
            clear M0 b8
            go_wp2
            go_ret
            exact ⟨rfl, B8⟩
    · have HN := Lib.hid (needF_no hv)
      rw [HN.out]
      clear hv
      obtain ⟨tb, htb⟩ : ∃ tb, tb = tasksB xss := ⟨_, rfl⟩
      rw [← htb]
      have HTB := Lib.hid htb
      clear htb
      have t0 : ((-1 : Int) != -1) = false := rfl
      have t1 : ((-1 : Int) == -1) = true := rfl
      cases tb
      all_goals
        go_wp2_with fail
        refine (cbSame_any _ _ _ _ _ _ _ _ _ _ _ _ _ p5 q5 l3 l4).mono ?_
        rintro e w6 ⟨rfl, k6, rfl⟩
        rw [HEQ.out]
        have B6 := below_drewN B5 k6
        have m6 := m5.drewN k6
        have p6 := p5.drewN k6
        have q6 := q5.drewN k6
        clear B5 m5 p5 q5
        go_wp2_with fail
        refine (impl_TasksValid _ _ _ _ _ _ _ _ _ m6 (by omega) HR.out).mono ?_
        rintro e w7 ⟨rfl, rfl⟩
        rw [← HXS.out, ← HTB.out]
        go_wp2_with fail
        refine (impl_TasksValid _ _ _ _ _ _ _ _ _ m6 (by omega) HR.out).mono ?_
        rintro e w7 ⟨rfl, rfl⟩
        rw [← HXS.out, ← HTB.out]
        go_wp2_with fail
        refine (spec_TasksValid _ _ _ _ _ _ _ _ _ m6 (by omega) HR.out).mono ?_
        rintro e w7 ⟨rfl, rfl⟩
        rw [← HXS.out, ← HTB.out]
        go_wp2_with fail
        refine (spec_FaultsNeeded _ _ _ _ _ _ _ _ _ _ m6 (by omega) HR.out).mono ?_
        rintro e w7 ⟨rfl, b7⟩
        rw [← HXS.out, HN.out]
        have B7 := below_step B6 b7
        have m7 := m6.below b7
        have p7 := p6.below b7
        have q7 := q6.below b7
        clear m6 p6 q6 b7
        go_wp2_with fail
        refine (cbSame_any _ _ _ _ _ _ _ _ _ _ _ _ _ p7 q7 l3 l4).mono ?_
        rintro e w8 ⟨rfl, k8, rfl⟩
        rw [HEQ.out]
        have B8 := below_drewN B7 k8
        have m8 := m7.drewN k8
        clear m7 p7 q7
        go_wp2_with fail
        refine (impl_TasksValid _ _ _ _ _ _ _ _ _ m8 (by omega) HR.out).mono ?_
        rintro e w9 ⟨rfl, rfl⟩
        rw [← HXS.out, ← HTB.out]
        go_wp2_with fail
        refine (impl_TasksValid _ _ _ _ _ _ _ _ _ m8 (by omega) HR.out).mono ?_
        rintro e w9 ⟨rfl, rfl⟩
        rw [← HXS.out, ← HTB.out]
        go_wp2_with fail
        refine (spec_TasksValid _ _ _ _ _ _ _ _ _ m8 (by omega) HR.out).mono ?_
        rintro e w9 ⟨rfl, rfl⟩
        rw [← HXS.out, ← HTB.out]
        clear m8
        go_wp2
        go_ret
        exact ⟨rfl, B8⟩
end Go.Proofs.Ytgcnhojiaaonmaa
