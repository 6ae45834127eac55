/-
  The walk of the law FnNextReady.
-/
import Derived.Test.YtojnnemodikpeaaDoorDrawP
import Derived.Test.YtojnnemodikpeaaDoorNextM
import Derived.Test.YtojnnemodikpeaaDoorLens2
namespace Go.Proofs.YtojnnemodikpeaaDoor
open Go.RowKit Go.Conc
set_option linter.unusedVariables false
theorem readyEF_asc (rooms : List Int) (ds ts : List DeedD) : (readyEF rooms ds ts).1.Pairwise (· < ·) ∧ ∀ x ∈ (readyEF rooms ds ts).1, 0 ≤ x := by
  unfold readyEF
  split
  · refine ⟨idxs_asc _ _, fun x hx => ?_⟩
    obtain ⟨k, hk⟩ := List.getElem?_of_mem hx
    obtain ⟨i, _, rfl, _⟩ := idxs_lt (p := fun i => readyF ((runF rooms ds).1.getD (ts.getD i d00).a.toNat l00) (ts.getD i d00)) hk
    omega
  · exact ⟨List.Pairwise.nil, fun x hx => by cases hx⟩
/-- What FnNextReady asks of the next one, the first one and the ready ones. -/
structure NextOk (r : List Int) (last K F : Int) : Prop where
  mem : ∃ i : Nat, r[i]? = some K
  least : ∀ (i : Nat) x, r[i]? = some x → last < x → K ≤ x
  behind : ∀ (i : Nat) x, r[i]? = some x → last < x → last < K
  or : last < K ∨ K = F
  first : r[0]? = some F
theorem nextRF_ok {rooms : List Int} {ds ts : List DeedD} {last : Int} (h : ((readyEF rooms ds ts).2 && inB last (-1) ((ts.length : Int) - 1)) = true) (hne : (readyEF rooms ds ts).1 ≠ []) :
    NextOk (readyEF rooms ds ts).1 last (nextRF rooms ds ts last) (firstRF rooms ds ts) := by
  obtain ⟨ha, h0⟩ := readyEF_asc rooms ds ts
  have h2 : (readyEF rooms ds ts).2 = true := by simp only [Bool.and_eq_true] at h; exact h.1
  have e1 : nextRF rooms ds ts last = nextF (readyEF rooms ds ts).1 last := by unfold nextRF; rw [if_pos h]
  have e2 : firstRF rooms ds ts = (readyEF rooms ds ts).1.headD (-1) := by unfold firstRF; rw [if_pos h2, first_is h0]
  rw [e1, e2]
  obtain ⟨q1, q2, q3, q4⟩ := next_is (last := last) ha hne
  refine ⟨q1, q2, q3, q4, ?_⟩
  cases hq : (readyEF rooms ds ts).1 with
  | nil => exact absurd hq hne
  | cons a l1 => rfl
theorem nextF_ge {r : List Int} {last : Int} (h : ∀ x ∈ r, 0 ≤ x) : -1 ≤ nextF r last := by
  unfold nextF
  cases hf : r.find? fun x => decide (last < x) with
  | none =>
    cases r with
    | nil => simp
    | cons a l1 => have := h a (by simp); simp; omega
  | some y => have := h y (List.mem_of_find?_eq_some hf); simp; omega
set_option maxRecDepth 20000 in
set_option maxHeartbeats 8000000 in
theorem walk_FnNextReady (A : Option Addr) (n c : Nat) (w : World) (h : Code w A n c) (ht : TabW w) :
    Calls Tryd.prog 16 #[.slice A n c] w fun e w' => e = .returned (.bool true) ∧ Below w.heap.size w w' := by
  have HT := Lib.hid ht
  have hcap := h.cap
  have hle := h.le
  unfold maxLen at hcap
  clear ht
  by_cases e0 : 1048576 < n
  · clear h
    go_enter Tryd.func16, Tryd.ntmps16
    go_wp2
    go_ret
    exact ⟨rfl, Below.refl _ _⟩
  · go_enter Tryd.func16, Tryd.ntmps16
    go_wp2_with fail
    refine (DrawNextReady_any A n c w h).mono ?_
    rintro e w1 ⟨A1, n1, c1, rooms, A2, n2, c2, ds, A3, n3, c3, ts, last, rfl, h1, h2, h3, hn1, hn2, hn3, b1⟩
    have s1 := b1.size
    have B := b1
    have HT1 := Lib.hid (HT.out.below b1)
    clear h b1
    generalize hK : nextRF rooms ds ts last = K
    generalize hF : firstRF rooms ds ts = F
    have HKF := Lib.hid (And.intro hK hF)
    clear hK hF
    go_wp2_with fail
    refine (impl_NextReady _ _ _ _ _ _ _ _ _ _ _ _ _ _ _ rooms ds ts last _ h1 h2 h3 (by omega) (by omega) (by omega) HT1.out).mono ?_
    rintro e w2 ⟨rfl, b2⟩
    rw [HKF.out.1]
    have s2 := b2.size
    replace h1 := h1.below b2
    replace h2 := h2.below b2
    replace h3 := h3.below b2
    replace B := below_step B b2
    have HT2 := Lib.hid (HT1.out.below b2)
    clear b2
    go_wp2_with fail
    refine (impl_FirstReady _ _ _ _ _ _ _ _ _ _ _ _ _ _ _ rooms ds ts _ h1 h2 h3 (by omega) (by omega) (by omega) HT2.out).mono ?_
    rintro e w3 ⟨rfl, b3⟩
    rw [HKF.out.2]
    have s3 := b3.size
    replace h1 := h1.below b3
    replace h2 := h2.below b3
    replace h3 := h3.below b3
    replace B := below_step B b3
    have HT3 := Lib.hid (HT2.out.below b3)
    clear b3
    have HH := Lib.hid (And.intro h1 (And.intro h2 h3))
    clear h1 h2 h3
    cases hok : ((readyEF rooms ds ts).2 && inB last (-1) ((ts.length : Int) - 1)) with
    | false =>
      have hK : K = -2 := by rw [← HKF.out.1]; unfold nextRF; rw [hok]; rfl
      subst hK
      clear hok
      go_wp2_with (first
        | (go_at_call 49; refine (spec_NextReady _ _ _ _ _ _ _ _ _ _ _ _ _ _ _ rooms ds ts last _ HH.out.1 HH.out.2.1 HH.out.2.2 (by omega) (by omega) (by omega)).mono ?_; rintro e w4 ⟨rfl, b4⟩; rw [HKF.out.1])
        | (go_at_call 44; refine (spec_FirstReady _ _ _ _ _ _ _ _ _ _ _ _ _ _ _ rooms ds ts _ (HH.out.1.below b4) (HH.out.2.1.below b4) (HH.out.2.2.below b4) (by omega) (by omega) (by omega)).mono ?_; rintro e w5 ⟨rfl, b5⟩; rw [HKF.out.2]))
      have HH2 := Lib.hid (And.intro ((HH.out.1.below b4).below b5) (And.intro ((HH.out.2.1.below b4).below b5) ((HH.out.2.2.below b4).below b5)))
      have B5 := below_step (below_step B b4) b5
      clear b4 b5 B
      go_wp2_with (first
        | (go_at_call 49; refine (spec_NextReady _ _ _ _ _ _ _ _ _ _ _ _ _ _ _ rooms ds ts last _ HH2.out.1 HH2.out.2.1 HH2.out.2.2 (by omega) (by omega) (by omega)).mono ?_; rintro e w6 ⟨rfl, b6⟩; rw [HKF.out.1])
        | (go_at_call 44; refine (spec_FirstReady _ _ _ _ _ _ _ _ _ _ _ _ _ _ _ rooms ds ts _ (HH2.out.1.below b6) (HH2.out.2.1.below b6) (HH2.out.2.2.below b6) (by omega) (by omega) (by omega)).mono ?_; rintro e w7 ⟨rfl, b7⟩; rw [HKF.out.2]))
      go_ret
      exact ⟨ret_bool (by simp), below_step (below_step B5 b6) b7⟩
    | true =>
      have hKge : -1 ≤ K := by rw [← HKF.out.1]; unfold nextRF; rw [if_pos hok]; exact nextF_ge (readyEF_asc rooms ds ts).2
      have hK2 : (K == -2) = false := by rw [beq_eq_false_iff_ne]; omega
      have hKK : (K != K) = false := by simp
      have hFF : (F != F) = false := by simp
      go_wp2_with (first
        | (go_at_call 49; refine (spec_NextReady _ _ _ _ _ _ _ _ _ _ _ _ _ _ _ rooms ds ts last _ HH.out.1 HH.out.2.1 HH.out.2.2 (by omega) (by omega) (by omega)).mono ?_; rintro e w4 ⟨rfl, b4⟩; rw [HKF.out.1])
        | (go_at_call 44; refine (spec_FirstReady _ _ _ _ _ _ _ _ _ _ _ _ _ _ _ rooms ds ts _ (HH.out.1.below b4) (HH.out.2.1.below b4) (HH.out.2.2.below b4) (by omega) (by omega) (by omega)).mono ?_; rintro e w5 ⟨rfl, b5⟩; rw [HKF.out.2]))
      refine (impl_ReadyEntries _ _ _ _ _ _ _ _ _ _ _ _ _ _ _ rooms ds ts _ ((HH.out.1.below b4).below b5) ((HH.out.2.1.below b4).below b5) ((HH.out.2.2.below b4).below b5) (by omega) (by omega) (by omega) ((HT3.out.below b4).below b5)).mono ?_
      rintro e w6 ⟨A6, n6, c6, rfl, h6, b6⟩
      have B6 := below_step (below_step (below_step B b4) b5) b6
      have hl6 : (readyEF rooms ds ts).1.length = n6 := h6.slc.length
      have hn6 := readyEF_len2 rooms ds ts
      have HL6 := Lib.hid (And.intro hl6 (And.intro B6 h6.slc))
      have hn6' : n6 ≤ 1048576 := by omega
      generalize (readyEF rooms ds ts).2 = tt
      clear b4 b5 b6 B h6 hn6 hl6 hK2 hKK hFF B6
      by_cases hn0 : n6 = 0
      · have hnil : (readyEF rooms ds ts).1 = [] := List.length_eq_zero_iff.1 (by rw [HL6.out.1]; exact hn0)
        have h2 : (readyEF rooms ds ts).2 = true := by simp only [Bool.and_eq_true] at hok; exact hok.1
        have eK : K = -1 := by rw [← HKF.out.1]; unfold nextRF nextF; rw [if_pos hok, hnil]; rfl
        have eF : F = -1 := by rw [← HKF.out.2]; unfold firstRF nextF; rw [if_pos h2, hnil]; rfl
        subst hn0 eK eF
        clear hok hnil h2
        go_wp2
        go_ret
        exact ⟨rfl, HL6.out.2.1⟩
      · have hne : (readyEF rooms ds ts).1 ≠ [] := fun e => hn0 (by rw [← HL6.out.1, e]; rfl)
        have hno := nextRF_ok hok hne
        rw [HKF.out.1, HKF.out.2] at hno
        have HNO := Lib.hid hno
        have hn1' : 0 < n6 := by omega
        clear hok hne hno hn0
        go_wp2_with fail
        go_loop [11, 12] (fun t i => ∃ (j : Nat) (b : Bool), j ≤ n6 ∧ i = .int .i64 j ∧ t = .bool b ∧ (b = true ↔ ∃ i : Nat, i < j ∧ (readyEF rooms ds ts).1[i]? = some K)) (fun _ i => n6 - (intOf i).toNat)
        case atStart => exact ⟨0, false, Nat.zero_le _, rfl, rfl, by simp⟩
        case round =>
          obtain ⟨j, b, hj, rfl, rfl, hb⟩ := hrel
          have HBB := Lib.hid hb
          clear hb
          by_cases hjl : j < n6
          · obtain ⟨b7, off7, x, e7, _, _, z7, hx, ec7⟩ := HL6.out.2.2.cellAt hjl
            subst e7
            have hl := HNO.out.least j x hx
            have hbh := HNO.out.behind j x hx
            have HXX := Lib.hid hx
            have j0' : (0 : Int) ≤ (j : Int) := by omega
            have j1 : (j : Int) < (n6 : Int) := by omega
            clear hx
            obtain ⟨z, hz⟩ : ∃ z, z = (x == K) := ⟨_, rfl⟩
            have hz' : (x == K) = z := hz.symm
            have HZ := Lib.hid hz
            clear hz
            have done : ∀ b' : Bool, b' = (b || z) → (b' = true ↔ ∃ i : Nat, i < j + 1 ∧ (readyEF rooms ds ts).1[i]? = some K) := by
              rintro b' rfl
              rw [Bool.or_eq_true, HBB.out]
              constructor
              · rintro (⟨i, hi, h⟩ | h)
                · exact ⟨i, by omega, h⟩
                · rw [HZ.out, beq_iff_eq] at h
                  exact ⟨j, by omega, by rw [HXX.out, h]⟩
              · rintro ⟨i, hi, h⟩
                by_cases e : i = j
                · subst e; right; rw [HXX.out] at h; injection h with h; rw [HZ.out, h]; simp
                · left; exact ⟨i, by omega, h⟩
            have HDD := Lib.hid done
            clear done
            by_cases hlx : last < x
            · have q1 : ¬ x < K := by have := hl hlx; omega
              have q2 : ¬ K ≤ last := by have := hbh hlx; omega
              have q3 : last < x := hlx
              clear hl hbh
              cases b <;> go_wp2
              all_goals
                go_round
                case rel => exact ⟨j + 1, _, by omega, by go_num, rfl, HDD.out _ (by simp)⟩
                case measure => simp [intOf]; omega
            · clear hl hbh
              obtain ⟨y, hy⟩ : ∃ y, y = decide (K ≤ last) := ⟨_, rfl⟩
              have hy' : decide (K ≤ last) = y := hy.symm
              clear hy
              cases b <;> cases y <;> go_wp2
              all_goals
                go_round
                case rel => exact ⟨j + 1, _, by omega, by go_num, rfl, HDD.out _ (by simp)⟩
                case measure => simp [intOf]; omega
          · have hjn : j = n6 := by omega
            have hbt : b = true := by
              rw [HBB.out]
              obtain ⟨i, hi⟩ := HNO.out.mem
              exact ⟨i, by have := (List.getElem?_eq_some_iff.1 hi).1; have := HL6.out.1; omega, hi⟩
            subst hbt
            obtain ⟨b7, off7, x, e7, _, _, z7, hx, ec7⟩ := HL6.out.2.2.cellAt hn1'
            subst e7
            have hxF : x = F := by have := HNO.out.first; rw [hx] at this; injection this
            subst hxF
            simp only [Nat.add_zero] at ec7
            have hor := HNO.out.or
            have hFF : (x == x) = true := by simp
            have HJN := Lib.hid hjn
            have hnj : ¬ (j : Int) < (n6 : Int) := by omega
            clear hx hjn hj hjl
            by_cases hlk : last < K
            · clear hor
              go_wp2
              go_ret
              exact ⟨rfl, HL6.out.2.1⟩
            · have hKx : (K == x) = true := by rcases hor with h | h; exact absurd h hlk; simpa using h
              clear hor
              go_wp2
              go_ret
              exact ⟨rfl, HL6.out.2.1⟩
end Go.Proofs.YtojnnemodikpeaaDoor
