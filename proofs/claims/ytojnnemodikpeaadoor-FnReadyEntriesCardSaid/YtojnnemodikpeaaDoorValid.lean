/-
  Whether rooms and deeds are valid, of the program and of the reference.
-/
import Derived.Test.YtojnnemodikpeaaDoorLineM
namespace Go.Proofs.YtojnnemodikpeaaDoor
open Go.RowKit
set_option linter.unusedVariables false
theorem allF_snoc {α : Type} {p : α → Bool} {l : List α} {k : Nat} {a : α} (h : ∀ j, j < k → ∀ b, l[j]? = some b → p b = true) (hk : l[k]? = some a) (ha : p a = true) : ∀ j, j < k + 1 → ∀ b, l[j]? = some b → p b = true := by
  intro j hj b hb
  by_cases e : j = k
  · subst e; rw [hk] at hb; injection hb with hb; subst hb; exact ha
  · exact h j (by omega) b hb
theorem allF_of {α : Type} {p : α → Bool} {l : List α} {k : Nat} (h : ∀ j, j < k → ∀ b, l[j]? = some b → p b = true) (hk : l.length ≤ k) : l.all p = true := by
  rw [List.all_eq_true]; intro a ha
  obtain ⟨j, hj, e⟩ := List.mem_iff_getElem.1 ha
  exact h j (by omega) a (by rw [List.getElem?_eq_getElem hj, e])
theorem allF_not {α : Type} {p : α → Bool} {l : List α} {k : Nat} {a : α} (hk : l[k]? = some a) (ha : p a = false) : l.all p = false := by
  rw [List.all_eq_false]; exact ⟨a, List.mem_of_getElem? hk, by simp [ha]⟩
theorem roomsB_not {l : List Int} (h : l.all roomB = false) : roomsB l = false := by simp only [roomsB, h, Bool.and_false]
theorem roomsB_len {l : List Int} (h : ¬ (1 ≤ l.length ∧ l.length ≤ 6)) : roomsB l = false := by simp only [roomsB, h, decide_false, Bool.false_and]
theorem roomsB_all {l : List Int} (h : l.all roomB = true) : roomsB l = decide (1 ≤ l.length ∧ l.length ≤ 6) := by simp only [roomsB, h, Bool.and_true]
set_option maxHeartbeats 1000000 in
theorem spec_RoomsValid (lo hi n c : Nat) (A : Option Addr) (xs : List Int) (w : World) (h : Slc w lo hi 1 A n c (ints xs)) (hn : n ≤ 1048576) :
    Calls Tryd.prog 83 #[.slice A n c] w fun e w' => e = .returned (.bool (roomsB xs)) ∧ w' = w := by
  have hl := Lib.hid h.length
  go_enter Tryd.func83, Tryd.ntmps83
  go_wp2
  go_loop [3] (fun i => ∃ k : Nat, k ≤ n ∧ i = .int .i64 k ∧ ∀ j, j < k → ∀ b, xs[j]? = some b → roomB b = true) (fun i => n - (intOf i).toNat)
  case atStart => exact ⟨0, Nat.zero_le _, rfl, fun j hj => absurd hj (by omega)⟩
  case round =>
    obtain ⟨k, hk, rfl, hcs⟩ := hrel
    have HC := Lib.hid hcs
    clear hcs
    by_cases hlt : k < n
    · obtain ⟨b, off, x, rfl, _, _, h3, hxk, hv⟩ := h.cellAt hlt
      have HX := Lib.hid hxk
      clear hxk h
      by_cases hx : inB x 0 8 = true
      · have HT := Lib.hid hx
        go_wp2_with ((go_at_call 59; refine (l1In_any _ _ _ _).mono ?_; rintro e w' ⟨rfl, rfl⟩))
        go_round
        case rel => exact ⟨k + 1, by omega, by go_num, allF_snoc HC.out HX.out HT.out⟩
        case measure => simp [intOf]; omega
      · have hx' : inB x 0 8 = false := by simpa using hx
        have HT := Lib.hid hx'
        clear hx
        go_wp2_with ((go_at_call 59; refine (l1In_any _ _ _ _).mono ?_; rintro e w' ⟨rfl, rfl⟩))
        go_ret
        exact ⟨ret_bool (roomsB_not (allF_not HX.out HT.out)).symm, rfl⟩
    · have e : k = n := by omega
      have HE := Lib.hid e
      clear e h
      go_wp2_with ((go_at_call 59; refine (l1In_any _ _ _ _).mono ?_; rintro e w' ⟨rfl, rfl⟩))
      go_ret
      refine ⟨ret_bool ?_, rfl⟩
      rw [roomsB_all (allF_of HC.out (by rw [hl.out, HE.out]; exact Nat.le_refl _)), Bool.eq_iff_iff]
      simp [inB, hl.out]; omega
set_option maxHeartbeats 1000000 in
theorem impl_RoomsValid (lo hi n c : Nat) (A : Option Addr) (xs : List Int) (w : World) (h : Slc w lo hi 1 A n c (ints xs)) (hn : n ≤ 1048576) :
    Calls Tryd.prog 86 #[.slice A n c] w fun e w' => e = .returned (.bool (roomsB xs)) ∧ w' = w := by
  have hl := Lib.hid h.length
  by_cases hn6 : 1 ≤ n ∧ n ≤ 6
  · have g1 : 1 ≤ n := hn6.1
    have g2 : n ≤ 6 := hn6.2
    go_enter Tryd.func86, Tryd.ntmps86
    go_wp2
    go_loop [15] (fun i => ∃ k : Nat, k ≤ n ∧ i = .int .i64 k ∧ ∀ j, j < k → ∀ b, xs[j]? = some b → roomB b = true) (fun i => n - (intOf i).toNat)
    case atStart => exact ⟨0, Nat.zero_le _, rfl, fun j hj => absurd hj (by omega)⟩
    case round =>
      obtain ⟨k, hk, rfl, hcs⟩ := hrel
      have HC := Lib.hid hcs
      clear hcs
      by_cases hlt : k < n
      · obtain ⟨b, off, x, rfl, _, _, h3, hxk, hv⟩ := h.cellAt hlt
        have HX := Lib.hid hxk
        clear hxk h
        by_cases hx : 0 ≤ x ∧ x ≤ 8
        · have HT := Lib.hid (show roomB x = true by simp [roomB, inB]; exact hx)
          have x0 := hx.1
          have x1 := hx.2
          clear hx
          go_wp2
          go_round
          case rel => first | exact ⟨k + 1, by omega, by go_num, allF_snoc HC.out HX.out HT.out⟩ | ((repeat apply Exists.intro); exact ⟨⟨k + 1, by omega, by go_num, allF_snoc HC.out HX.out HT.out⟩, rfl⟩)
          case measure => simp [intOf]; omega
        · have HT := Lib.hid (show roomB x = false by simp [roomB, inB]; omega)
          have x1 : x < 0 ∨ (0 ≤ x ∧ 8 < x) := by omega
          clear hx
          rcases x1 with x1 | ⟨x0, x1⟩
          all_goals go_wp2
          all_goals go_ret
          all_goals exact ⟨ret_bool (roomsB_not (allF_not HX.out HT.out)).symm, rfl⟩
      · have e : k = n := by omega
        have HE := Lib.hid e
        clear e h
        go_wp2
        go_ret
        refine ⟨ret_bool ?_, rfl⟩
        rw [roomsB_all (allF_of HC.out (by rw [hl.out, HE.out]; exact Nat.le_refl _))]
        simp [hl.out]; omega
  · have HF := Lib.hid (roomsB_len (l := xs) (by rw [hl.out]; exact hn6))
    have hx : n < 1 ∨ 6 < n := by omega
    clear hn6 h
    rcases hx with hx | hx
    all_goals
      go_enter Tryd.func86, Tryd.ntmps86
      go_wp2
      go_ret
      exact ⟨ret_bool HF.out.symm, rfl⟩
set_option maxHeartbeats 1000000 in
theorem spec_l1Words (s : ByteArray) (w : World) :
    Calls Tryd.prog 96 #[.string s] w fun e w' => e = .returned (.bool (s.toList == putA)) ∧ w' = w := by
  go_enter Tryd.func96, Tryd.ntmps96
  go_wp2
  go_ret
  exact ⟨ret_bool (by simp [putA]), rfl⟩
def actB (s : List UInt8) : Bool := s == putA || s == takeA || s == endA || s == lookA
set_option maxHeartbeats 1000000 in
theorem spec_l1Act (s : ByteArray) (w : World) :
    Calls Tryd.prog 95 #[.string s] w fun e w' => e = .returned (.bool (actB s.toList)) ∧ w' = w := by
  go_enter Tryd.func95, Tryd.ntmps95
  go_wp2
  all_goals go_ret
  all_goals exact ⟨ret_bool (by simp_all [actB, putA, takeA, endA, lookA]), rfl⟩
set_option maxHeartbeats 2000000 in
theorem spec_l1Deed (d : DeedD) (lines : Int) (w : World) :
    Calls Tryd.prog 82 #[.agg #[.string d.act, .int .i64 d.a, .int .i64 d.b], .int .i64 lines] w fun e w' => e = .returned (.bool (deedB lines d)) ∧ Below w.heap.size w w' := by
  obtain ⟨s, x, y⟩ := d
  go_enter Tryd.func82, Tryd.ntmps82
  go_wp2_with (first | (go_at_call 59; refine (l1In_any _ _ _ _).mono ?_; rintro e w' ⟨rfl, rfl⟩) | (go_at_call 95; refine (spec_l1Act _ _).mono ?_; rintro e w' ⟨rfl, rfl⟩) | (go_at_call 96; refine (spec_l1Words _ _).mono ?_; rintro e w' ⟨rfl, rfl⟩))
  all_goals go_ret
  all_goals refine ⟨ret_bool ?_, below_al (Below.refl _ _) _⟩
  all_goals rw [Bool.eq_iff_iff]
  all_goals simp [deedB, deedP, actB, inB] at *
  all_goals grind
theorem validB_of (lines : Int) (d : DeedD) : deedB lines d = true ↔ deedP lines d := by simp [deedB]
set_option maxHeartbeats 4000000 in
theorem impl_DeedValid (d : DeedD) (lines : Int) (w : World) :
    Calls Tryd.prog 79 #[.agg #[.string d.act, .int .i64 d.a, .int .i64 d.b], .int .i64 lines] w fun e w' => e = .returned (.bool (inB lines 1 6 && deedB lines d)) ∧ Below w.heap.size w w' := by
  obtain ⟨s, x, y⟩ := d
  go_enter Tryd.func79, Tryd.ntmps79
  go_wp2
  all_goals go_ret
  all_goals refine ⟨ret_bool ?_, below_al (Below.refl _ _) _⟩
  all_goals rw [Bool.eq_iff_iff]
  all_goals simp [deedB, deedP, inB, putA, takeA, endA, lookA] at *
  all_goals grind
set_option maxHeartbeats 1000000 in
theorem spec_l1Valid (lo hi n c lo' hi' n' c' : Nat) (A A' : Option Addr) (xs : List Int) (ds : List DeedD) (w : World) (h : Slc w lo hi 1 A n c (ints xs)) (h' : Slc w lo' hi' 3 A' n' c' (deeds ds)) (hn : n ≤ 1048576) (hn' : n' ≤ 1048576) :
    Calls Tryd.prog 58 #[.slice A n c, .slice A' n' c'] w fun e w' => e = .returned (.bool (deedsB xs ds)) ∧ Below w.heap.size w w' := by
  have hl := Lib.hid h.length
  have hl' := Lib.hid h'.deedLen
  go_enter Tryd.func58, Tryd.ntmps58
  go_wp2
  go_loopw [5] (fun i wr => ∃ k : Nat, k ≤ n' ∧ i = .int .i64 k ∧ Below w.heap.size w wr ∧ ∀ j, j < k → ∀ b, ds[j]? = some b → deedB xs.length b = true) (fun i _ => n' - (intOf i).toNat)
  case atStart => exact ⟨0, Nat.zero_le _, rfl, Below.refl _ _, fun j hj => absurd hj (by omega)⟩
  case round =>
    obtain ⟨k, hk, rfl, B, hcs⟩ := hrel
    have HC := Lib.hid hcs
    clear hcs
    by_cases hlt : k < n'
    · obtain ⟨b, off, d, hA, _, _, h3, hxk, hv0, hv1, hv2⟩ := (h'.below B).deedAt hlt
      subst hA
      have HX := Lib.hid hxk
      clear hxk h h'
      obtain ⟨t, ht⟩ : ∃ t, t = deedB n d := ⟨_, rfl⟩
      have HT := Lib.hid ht
      clear ht
      go_wp2_with fail
      refine (spec_l1Deed d n _).mono ?_
      rintro e w1 ⟨rfl, b1⟩
      have B1 := below_step B b1
      rw [← HT.out]
      clear hv0 hv1 hv2 h3 b1 B
      cases t
      · go_wp2
        go_ret
        exact ⟨ret_bool (by symm; unfold deedsB; rw [allF_not HX.out (by rw [hl.out]; exact HT.out.symm)]; simp), B1⟩
      · go_wp2
        go_roundw
        case rel => exact ⟨k + 1, by omega, by go_num, B1, allF_snoc HC.out HX.out (by rw [hl.out]; exact HT.out.symm)⟩
        case measure => simp [intOf]; omega
    · have e : n' = k := by omega
      subst e
      have HA := Lib.hid (allF_of (p := deedB xs.length) HC.out (by rw [hl'.out]; exact Nat.le_refl _))
      have hb := h.below B
      clear h h'
      obtain ⟨t, ht⟩ : ∃ t, t = roomsB xs := ⟨_, rfl⟩
      have HT := Lib.hid ht
      clear ht
      go_wp2_with fail
      refine (spec_RoomsValid _ _ _ _ _ _ _ hb hn).mono ?_
      rintro e w' ⟨rfl, rfl⟩
      rw [← HT.out]
      clear hb
      cases t
      · go_wp2
        go_ret
        exact ⟨ret_bool (by symm; unfold deedsB; rw [← HT.out]; simp), B⟩
      · by_cases h60 : n' ≤ 60
        · go_wp2
          go_ret
          exact ⟨ret_bool (by symm; unfold deedsB; rw [← HT.out, HA.out, hl'.out]; simp [h60]; omega), B⟩
        · go_wp2
          go_ret
          exact ⟨ret_bool (by symm; unfold deedsB; rw [hl'.out]; simp [h60]; omega), B⟩
set_option maxHeartbeats 1000000 in
theorem impl_deedsValid (lo hi n c lo' hi' n' c' : Nat) (A A' : Option Addr) (xs : List Int) (ds : List DeedD) (w : World) (h : Slc w lo hi 1 A n c (ints xs)) (h' : Slc w lo' hi' 3 A' n' c' (deeds ds)) (hn : n ≤ 1048576) (hn' : n' ≤ 1048576) :
    Calls Tryd.prog 62 #[.slice A n c, .slice A' n' c'] w fun e w' => e = .returned (.bool (deedsB xs ds)) ∧ Below w.heap.size w w' := by
  have hl := Lib.hid h.length
  have hl' := Lib.hid h'.deedLen
  obtain ⟨t, ht⟩ : ∃ t, t = roomsB xs := ⟨_, rfl⟩
  have HT := Lib.hid ht
  clear ht
  go_enter Tryd.func62, Tryd.ntmps62
  go_wp2_with fail
  refine (impl_RoomsValid _ _ _ _ _ _ _ h hn).mono ?_
  rintro e w ⟨rfl, rfl⟩
  rw [← HT.out]
  cases t
  · clear h h'
    go_wp2
    go_ret
    exact ⟨ret_bool (by symm; unfold deedsB; rw [← HT.out]; simp), Below.refl _ _⟩
  · by_cases h60 : n' ≤ 60
    · have hr6 : 1 ≤ n ∧ n ≤ 6 := by
        have := HT.out.symm
        unfold roomsB at this
        simp only [Bool.and_eq_true, decide_eq_true_eq] at this
        rw [hl.out] at this; exact this.1
      have g1 := hr6.1
      have g2 := hr6.2
      clear hr6 h
      go_wp2
      go_loopw [17] (fun i wr => ∃ k : Nat, k ≤ n' ∧ i = .int .i64 k ∧ Below w.heap.size w wr ∧ ∀ j, j < k → ∀ b, ds[j]? = some b → deedB xs.length b = true) (fun i _ => n' - (intOf i).toNat)
      case atStart => exact ⟨0, Nat.zero_le _, rfl, Below.refl _ _, fun j hj => absurd hj (by omega)⟩
      case round =>
        obtain ⟨k, hk, rfl, B, hcs⟩ := hrel
        have HC := Lib.hid hcs
        clear hcs
        by_cases hlt : k < n'
        · obtain ⟨b, off, d, hA, _, _, h3, hxk, hv0, hv1, hv2⟩ := (h'.below B).deedAt hlt
          subst hA
          have HX := Lib.hid hxk
          clear hxk h'
          obtain ⟨t, ht⟩ : ∃ t, t = deedB n d := ⟨_, rfl⟩
          have HD := Lib.hid ht
          have hin : inB n 1 6 = true := by simp [inB]; omega
          have HIN := Lib.hid hin
          clear ht hin
          go_wp2_with fail
          refine (impl_DeedValid d n _).mono ?_
          rintro e w1 ⟨rfl, b1⟩
          have B1 := below_step (below_al B _) b1
          rw [← HD.out, HIN.out, Bool.true_and]
          clear hv0 hv1 hv2 h3 b1 B
          cases t
          · go_wp2
            go_ret
            exact ⟨ret_bool (by symm; unfold deedsB; rw [allF_not HX.out (by rw [hl.out]; exact HD.out.symm)]; simp), B1⟩
          · go_wp2
            go_roundw
            case rel => exact ⟨k + 1, by omega, by go_num, B1, allF_snoc HC.out HX.out (by rw [hl.out]; exact HD.out.symm)⟩
            case measure => simp [intOf]; omega
        · have e : n' = k := by omega
          subst e
          have HA := Lib.hid (allF_of (p := deedB xs.length) HC.out (by rw [hl'.out]; exact Nat.le_refl _))
          clear h'
          go_wp2
          go_ret
          exact ⟨ret_bool (by symm; unfold deedsB; rw [← HT.out, HA.out, hl'.out]; simp [h60]), B⟩
    · clear h h'
      go_wp2
      go_ret
      exact ⟨ret_bool (by symm; unfold deedsB; rw [hl'.out]; simp [h60]), Below.refl _ _⟩
end Go.Proofs.YtojnnemodikpeaaDoor
