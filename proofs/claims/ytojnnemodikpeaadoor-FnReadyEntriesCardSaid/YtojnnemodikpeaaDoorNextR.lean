/-
  FirstReady and NextReady.
-/
import Derived.Test.YtojnnemodikpeaaDoorReadA
namespace Go.Proofs.YtojnnemodikpeaaDoor
open Go.RowKit Go.Conc
set_option linter.unusedVariables false
def nextF (r : List Int) (last : Int) : Int := (r.find? fun x => decide (last < x)).getD (r.headD (-1))
def firstRF (rooms : List Int) (ds ts : List DeedD) : Int := if (readyEF rooms ds ts).2 then nextF (readyEF rooms ds ts).1 (-1) else -2
def nextRF (rooms : List Int) (ds ts : List DeedD) (last : Int) : Int := if ((readyEF rooms ds ts).2 && inB last (-1) ((ts.length : Int) - 1)) then nextF (readyEF rooms ds ts).1 last else -2
theorem find_at {r : List Int} {p : Int → Bool} : ∀ {k : Nat} {x : Int}, (∀ j, j < k → ∀ y, r[j]? = some y → p y = false) → r[k]? = some x → p x = true → r.find? p = some x := by
  induction r with
  | nil => intro k x _ h; simp at h
  | cons a r ih =>
    intro k x hall hk hp
    cases k with
    | zero => simp at hk; subst hk; simp [hp]
    | succ k =>
      have ha := hall 0 (by omega) a rfl
      rw [List.find?_cons, ha]
      exact ih (fun j hj y hy => hall (j + 1) (Nat.succ_lt_succ hj) y (by simpa using hy)) (by simpa using hk) hp
theorem find_none {r : List Int} {p : Int → Bool} (hall : ∀ j, j < r.length → ∀ y, r[j]? = some y → p y = false) : r.find? p = none := by
  rw [List.find?_eq_none]
  intro x hx
  obtain ⟨j, hj, e⟩ := List.mem_iff_getElem.1 hx
  have := hall j hj x (by rw [List.getElem?_eq_getElem hj, e])
  simp [this]
theorem nextF_at {r : List Int} {last : Int} {k : Nat} {x : Int} (hall : ∀ j, j < k → ∀ y, r[j]? = some y → decide (last < y) = false) (hk : r[k]? = some x) (hp : last < x) : nextF r last = x := by
  unfold nextF; rw [find_at hall hk (by simpa using hp)]; rfl
theorem nextF_none {r : List Int} {last : Int} (hall : ∀ j, j < r.length → ∀ y, r[j]? = some y → decide (last < y) = false) : nextF r last = r.headD (-1) := by
  unfold nextF; rw [find_none hall]; rfl
theorem noneF_snoc {p : Int → Bool} {l : List Int} {k : Nat} {a : Int} (h : ∀ j, j < k → ∀ b, l[j]? = some b → p b = false) (hk : l[k]? = some a) (ha : p a = false) : ∀ j, j < k + 1 → ∀ b, l[j]? = some b → p b = false := by
  intro j hj b hb
  by_cases e : j = k
  · subst e; rw [hk] at hb; injection hb with hb; subst hb; exact ha
  · exact h j (by omega) b hb
theorem head_at {r : List Int} {x : Int} (h : r[0]? = some x) : r.headD (-1) = x := by cases r <;> simp_all
set_option maxHeartbeats 2000000 in
theorem spec_l5Next (lo hi n c : Nat) (A : Option Addr) (r : List Int) (last : Int) (w : World) (h : Slc w lo hi 1 A n c (ints r)) (hn : n ≤ 1048576) :
    Calls Tryd.prog 73 #[.slice A n c, .int .i64 last] w fun e w' => e = .returned (.int .i64 (nextF r last)) ∧ w' = w := by
  have hl := Lib.hid h.length
  go_enter Tryd.func73, Tryd.ntmps73
  go_wp2
  go_loop [5] (fun i => ∃ k : Nat, k ≤ n ∧ i = .int .i64 k ∧ ∀ j, j < k → ∀ y, r[j]? = some y → decide (last < y) = false) (fun i => n - (intOf i).toNat)
  case atStart => exact ⟨0, Nat.zero_le _, rfl, fun j hj => absurd hj (by omega)⟩
  case round =>
    obtain ⟨k, hk, rfl, hcs⟩ := hrel
    have HC := Lib.hid hcs
    clear hcs
    by_cases hlt : k < n
    · obtain ⟨b, off, x, rfl, _, _, h3, hxk, hv⟩ := h.cellAt hlt
      have HX := Lib.hid hxk
      have i0' : (0 : Int) ≤ (k : Int) := by omega
      have i1 : (k : Int) < (n : Int) := by omega
      clear hxk h
      by_cases hx : last < x
      · have hx' := Lib.hid hx
        go_wp2
        go_ret
        exact ⟨ret_int (nextF_at HC.out HX.out hx'.out).symm, rfl⟩
      · have hx' := Lib.hid hx
        go_wp2
        go_round
        case rel => exact ⟨k + 1, by omega, by go_num, noneF_snoc HC.out HX.out (by have := hx'.out; simpa using this)⟩
        case measure => simp [intOf]; omega
    · have e : k = n := by omega
      subst e
      have HN := Lib.hid (nextF_none (last := last) (r := r) (by rw [hl.out]; exact HC.out))
      by_cases hz : k = 0
      · subst hz
        clear h
        go_wp2
        go_ret
        have hr : r = [] := List.eq_nil_of_length_eq_zero hl.out
        exact ⟨ret_int (by rw [HN.out, hr]; rfl), rfl⟩
      · obtain ⟨b, off, x, rfl, _, _, h3, hxk, hv⟩ := h.cellAt (k := 0) (by omega)
        simp only [Nat.add_zero] at hv
        have HX := Lib.hid hxk
        clear hxk h
        go_wp2
        go_ret
        exact ⟨ret_int (by rw [HN.out, head_at HX.out]), rfl⟩
theorem readyEF_len (rooms : List Int) (ds ts : List DeedD) : (readyEF rooms ds ts).1.length ≤ 8 := by
  unfold readyEF
  cases hd : choiceB rooms ds ts with
  | false => simp
  | true =>
    have := (ent_of (choice_of hd).2).1.2
    have := readyUpto_len ts.length (runF rooms ds).1 ts
    simp only [if_true]
    omega
theorem readyEF_pos (rooms : List Int) (ds ts : List DeedD) : ∀ x ∈ (readyEF rooms ds ts).1, 0 ≤ x := by
  unfold readyEF
  intro x hx
  split at hx
  · unfold readyUpto at hx
    obtain ⟨i, _, rfl⟩ := List.mem_map.1 hx
    omega
  · simp at hx
set_option maxHeartbeats 2000000 in
theorem spec_FirstReady (lo hi n c lo2 hi2 m c2 lo3 hi3 q c3 : Nat) (A A2 A3 : Option Addr) (rooms : List Int) (ds ts : List DeedD) (w : World) (h : Slc w lo hi 1 A n c (ints rooms)) (h2 : Slc w lo2 hi2 3 A2 m c2 (deeds ds)) (h3 : Slc w lo3 hi3 3 A3 q c3 (deeds ts)) (hn : n ≤ 1048576) (hm : m ≤ 1048576) (hq : q ≤ 1048576) :
    Calls Tryd.prog 44 #[.slice A n c, .slice A2 m c2, .slice A3 q c3] w fun e w' => e = .returned (.int .i64 (firstRF rooms ds ts)) ∧ Below w.heap.size w w' := by
  obtain ⟨t, ht⟩ : ∃ t, t = (readyEF rooms ds ts).2 := ⟨_, rfl⟩
  have HT := Lib.hid ht
  have hF : firstRF rooms ds ts = if t then nextF (readyEF rooms ds ts).1 (-1) else -2 := by unfold firstRF; rw [← ht]
  rw [hF]
  clear hF ht
  cases t
  all_goals
    go_enter Tryd.func44, Tryd.ntmps44
    go_wp2_with (first | (go_at_call 51; refine (spec_ReadyEntries _ _ _ _ _ _ _ _ _ _ _ _ _ _ _ rooms ds ts _ h h2 h3 hn hm hq).mono ?_; rintro e w1 ⟨A9, n9, c9, rfl, o9, b9⟩; rw [← HT.out]) | (go_at_call 73; refine (spec_l5Next _ _ _ _ _ (readyEF rooms ds ts).1 (-1) _ o9.slc (by have := o9.slc.length; have := readyEF_len rooms ds ts; omega)).mono ?_; rintro e w2 ⟨rfl, rfl⟩))
    go_ret
    exact ⟨rfl, b9⟩
set_option maxHeartbeats 2000000 in
theorem spec_NextReady (lo hi n c lo2 hi2 m c2 lo3 hi3 q c3 : Nat) (A A2 A3 : Option Addr) (rooms : List Int) (ds ts : List DeedD) (last : Int) (w : World) (h : Slc w lo hi 1 A n c (ints rooms)) (h2 : Slc w lo2 hi2 3 A2 m c2 (deeds ds)) (h3 : Slc w lo3 hi3 3 A3 q c3 (deeds ts)) (hn : n ≤ 1048576) (hm : m ≤ 1048576) (hq : q ≤ 1048576) :
    Calls Tryd.prog 49 #[.slice A n c, .slice A2 m c2, .slice A3 q c3, .int .i64 last] w fun e w' => e = .returned (.int .i64 (nextRF rooms ds ts last)) ∧ Below w.heap.size w w' := by
  obtain ⟨t, ht⟩ : ∃ t, t = (readyEF rooms ds ts).2 := ⟨_, rfl⟩
  obtain ⟨u, hu⟩ : ∃ u, u = inB last (-1) ((q : Int) - 1) := ⟨_, rfl⟩
  have HT := Lib.hid ht
  have HU := Lib.hid hu
  have hF : nextRF rooms ds ts last = if (t && u) then nextF (readyEF rooms ds ts).1 last else -2 := by unfold nextRF; rw [← ht, h3.deedLen, ← hu]
  rw [hF]
  clear hF ht hu
  cases t
  · go_enter Tryd.func49, Tryd.ntmps49
    go_wp2_with (first | (go_at_call 51; refine (spec_ReadyEntries _ _ _ _ _ _ _ _ _ _ _ _ _ _ _ rooms ds ts _ h h2 h3 hn hm hq).mono ?_; rintro e w1 ⟨A9, n9, c9, rfl, o9, b9⟩; rw [← HT.out]))
    go_ret
    exact ⟨rfl, b9⟩
  · cases u
    all_goals
      go_enter Tryd.func49, Tryd.ntmps49
      go_wp2_with (first | (go_at_call 51; refine (spec_ReadyEntries _ _ _ _ _ _ _ _ _ _ _ _ _ _ _ rooms ds ts _ h h2 h3 hn hm hq).mono ?_; rintro e w1 ⟨A9, n9, c9, rfl, o9, b9⟩; rw [← HT.out]) | (go_at_call 59; refine (l1In_any last (-1) ((q : Int) - 1) _).mono ?_; rintro e w2 ⟨rfl, rfl⟩; rw [← HU.out]) | (go_at_call 73; refine (spec_l5Next _ _ _ _ _ (readyEF rooms ds ts).1 last _ o9.slc (by have := o9.slc.length; have := readyEF_len rooms ds ts; omega)).mono ?_; rintro e w2 ⟨rfl, rfl⟩))
      go_ret
      exact ⟨rfl, b9⟩
theorem nextF_first {r : List Int} (h : ∀ x ∈ r, 0 ≤ x) : nextF r (-1) = r.headD (-1) := by
  cases r with
  | nil => rfl
  | cons x xs =>
    have := h x (by simp)
    unfold nextF
    rw [List.find?_cons]
    have : decide (-1 < x) = true := by simp; omega
    rw [this]; rfl
set_option maxHeartbeats 2000000 in
theorem impl_FirstReady (lo hi n c lo2 hi2 m c2 lo3 hi3 q c3 : Nat) (A A2 A3 : Option Addr) (rooms : List Int) (ds ts : List DeedD) (w : World) (h : Slc w lo hi 1 A n c (ints rooms)) (h2 : Slc w lo2 hi2 3 A2 m c2 (deeds ds)) (h3 : Slc w lo3 hi3 3 A3 q c3 (deeds ts)) (hn : n ≤ 1048576) (hm : m ≤ 1048576) (hq : q ≤ 1048576) (ht : TabW w) :
    Calls Tryd.prog 45 #[.slice A n c, .slice A2 m c2, .slice A3 q c3] w fun e w' => e = .returned (.int .i64 (firstRF rooms ds ts)) ∧ Below w.heap.size w w' := by
  have HTW := Lib.hid ht
  clear ht
  obtain ⟨t, ht⟩ : ∃ t, t = (readyEF rooms ds ts).2 := ⟨_, rfl⟩
  obtain ⟨R, hR⟩ : ∃ R, R = (readyEF rooms ds ts).1 := ⟨_, rfl⟩
  have HT := Lib.hid (And.intro ht hR)
  have hF : firstRF rooms ds ts = if t then R.headD (-1) else -2 := by unfold firstRF; rw [← ht, nextF_first (readyEF_pos rooms ds ts), ← hR]
  have hR8 : R.length ≤ 8 := by rw [hR]; exact readyEF_len rooms ds ts
  rw [hF]
  clear hF ht hR
  cases t
  · go_enter Tryd.func45, Tryd.ntmps45
    go_wp2_with (first | (go_at_call 52; refine (impl_ReadyEntries _ _ _ _ _ _ _ _ _ _ _ _ _ _ _ rooms ds ts _ h h2 h3 hn hm hq HTW.out).mono ?_; rintro e w1 ⟨A9, n9, c9, rfl, o9, b9⟩; rw [← HT.out.1]))
    go_ret
    exact ⟨rfl, b9⟩
  · cases hRR : R with
    | nil =>
      have HR := Lib.hid hRR
      clear hR8
      go_enter Tryd.func45, Tryd.ntmps45
      go_wp2_with (first | (go_at_call 52; refine (impl_ReadyEntries _ _ _ _ _ _ _ _ _ _ _ _ _ _ _ rooms ds ts _ h h2 h3 hn hm hq HTW.out).mono ?_; rintro e w1 ⟨A9, n9, c9, rfl, o9, b9⟩; rw [← HT.out.1]; obtain rfl : n9 = 0 := (by have := o9.slc.length; rw [← HT.out.2, HR.out] at this; simpa using this.symm)))
      go_ret
      exact ⟨rfl, b9⟩
    | cons x xs =>
      have HR := Lib.hid hRR
      have hl9 : R.length = xs.length + 1 := by rw [hRR]; rfl
      clear hRR
      go_enter Tryd.func45, Tryd.ntmps45
      go_wp2_with (first | (go_at_call 52; refine (impl_ReadyEntries _ _ _ _ _ _ _ _ _ _ _ _ _ _ _ rooms ds ts _ h h2 h3 hn hm hq HTW.out).mono ?_; rintro e w1 ⟨A9, n9, c9, rfl, o9, b9⟩; rw [← HT.out.1]; have hn9 : n9 = xs.length + 1 := (by have := o9.slc.length; rw [← HT.out.2] at this; omega); obtain ⟨b8, off8, x8, rfl, _, _, h8, hx8, hv8⟩ := o9.slc.cellAt (k := 0) (by omega); obtain rfl : x8 = x := (by rw [← HT.out.2, HR.out] at hx8; simpa using hx8.symm); simp only [Nat.add_zero] at hv8; have hn90 : ¬ n9 = 0 := (by omega)))
      go_ret
      exact ⟨rfl, b9⟩
set_option maxHeartbeats 2000000 in
theorem impl_NextReady (lo hi n c lo2 hi2 m c2 lo3 hi3 q c3 : Nat) (A A2 A3 : Option Addr) (rooms : List Int) (ds ts : List DeedD) (last : Int) (w : World) (h : Slc w lo hi 1 A n c (ints rooms)) (h2 : Slc w lo2 hi2 3 A2 m c2 (deeds ds)) (h3 : Slc w lo3 hi3 3 A3 q c3 (deeds ts)) (hn : n ≤ 1048576) (hm : m ≤ 1048576) (hq : q ≤ 1048576) (ht : TabW w) :
    Calls Tryd.prog 50 #[.slice A n c, .slice A2 m c2, .slice A3 q c3, .int .i64 last] w fun e w' => e = .returned (.int .i64 (nextRF rooms ds ts last)) ∧ Below w.heap.size w w' := by
  have HTW := Lib.hid ht
  clear ht
  obtain ⟨t, ht⟩ : ∃ t, t = (readyEF rooms ds ts).2 := ⟨_, rfl⟩
  obtain ⟨R, hR⟩ : ∃ R, R = (readyEF rooms ds ts).1 := ⟨_, rfl⟩
  have HT := Lib.hid (And.intro ht hR)
  have hF : nextRF rooms ds ts last = if (t && inB last (-1) ((q : Int) - 1)) then nextF R last else -2 := by unfold nextRF; rw [← ht, h3.deedLen, ← hR]
  have hR8 : R.length ≤ 8 := by rw [hR]; exact readyEF_len rooms ds ts
  rw [hF]
  clear hF ht hR
  cases t
  · go_enter Tryd.func50, Tryd.ntmps50
    go_wp2_with (first | (go_at_call 52; refine (impl_ReadyEntries _ _ _ _ _ _ _ _ _ _ _ _ _ _ _ rooms ds ts _ h h2 h3 hn hm hq HTW.out).mono ?_; rintro e w1 ⟨A9, n9, c9, rfl, o9, b9⟩; rw [← HT.out.1]))
    go_ret
    exact ⟨rfl, b9⟩
  · by_cases h1 : last < -1
    · have hi1 : inB last (-1) ((q : Int) - 1) = false := by simp [inB]; omega
      rw [hi1]
      go_enter Tryd.func50, Tryd.ntmps50
      go_wp2_with (first | (go_at_call 52; refine (impl_ReadyEntries _ _ _ _ _ _ _ _ _ _ _ _ _ _ _ rooms ds ts _ h h2 h3 hn hm hq HTW.out).mono ?_; rintro e w1 ⟨A9, n9, c9, rfl, o9, b9⟩; rw [← HT.out.1]))
      go_ret
      exact ⟨rfl, b9⟩
    · by_cases h4 : (q : Int) ≤ last
      · have hi1 : inB last (-1) ((q : Int) - 1) = false := by simp [inB]; omega
        rw [hi1]
        go_enter Tryd.func50, Tryd.ntmps50
        go_wp2_with (first | (go_at_call 52; refine (impl_ReadyEntries _ _ _ _ _ _ _ _ _ _ _ _ _ _ _ rooms ds ts _ h h2 h3 hn hm hq HTW.out).mono ?_; rintro e w1 ⟨A9, n9, c9, rfl, o9, b9⟩; rw [← HT.out.1]))
        go_ret
        exact ⟨rfl, b9⟩
      · have hi1 : inB last (-1) ((q : Int) - 1) = true := by simp [inB]; omega
        rw [hi1]
        simp only [Bool.and_self, if_true]
        clear hi1
        go_enter Tryd.func50, Tryd.ntmps50
        go_wp2_with (first | (go_at_call 52; refine (impl_ReadyEntries _ _ _ _ _ _ _ _ _ _ _ _ _ _ _ rooms ds ts _ h h2 h3 hn hm hq HTW.out).mono ?_; rintro e w1 ⟨A9, n9, c9, rfl, o9, b9⟩; rw [← HT.out.1]; rw [← HT.out.2] at o9))
        have hl9 := o9.slc.length
        have HL9 := Lib.hid hl9
        go_loopw [34] (fun i wr => ∃ k : Nat, k ≤ n9 ∧ i = .int .i64 k ∧ wr = w1 ∧ ∀ j, j < k → ∀ y, R[j]? = some y → decide (last < y) = false) (fun i _ => n9 - (intOf i).toNat)
        case atStart => exact ⟨0, Nat.zero_le _, rfl, rfl, fun j hj => absurd hj (by omega)⟩
        case round =>
          obtain ⟨k, hk, rfl, rfl, hcs⟩ := hrel
          have HC := Lib.hid hcs
          clear hcs
          by_cases hlt : k < n9
          · obtain ⟨b, off, x, rfl, _, _, h3', hxk, hv⟩ := o9.slc.cellAt hlt
            have HX := Lib.hid hxk
            have i0' : (0 : Int) ≤ (k : Int) := by omega
            have i1 : (k : Int) < (n9 : Int) := by omega
            have hB9 := Lib.hid b9
            clear hxk h h2 h3 o9 b9
            by_cases hx : last < x
            · have hx' := Lib.hid hx
              go_wp2
              go_ret
              exact ⟨ret_int (nextF_at HC.out HX.out hx'.out).symm, hB9.out⟩
            · have hx' := Lib.hid hx
              go_wp2
              go_roundw
              case rel => exact ⟨k + 1, by omega, by go_num, trivial, noneF_snoc HC.out HX.out (by have := hx'.out; simpa using this)⟩
              case measure => simp [intOf]; omega
          · have e : k = n9 := by omega
            subst e
            have HN := Lib.hid (nextF_none (last := last) (r := R) (by rw [HL9.out]; exact HC.out))
            by_cases hz : k = 0
            · have hr : R = [] := List.eq_nil_of_length_eq_zero (by omega)
              have HR := Lib.hid hr
              subst hz
              clear hr h h2 h3 o9 hl9
              go_wp2
              go_ret
              exact ⟨ret_int (by rw [HN.out, HR.out]; rfl), b9⟩
            · obtain ⟨b, off, x, rfl, _, _, h3', hxk, hv⟩ := o9.slc.cellAt (k := 0) (by omega)
              simp only [Nat.add_zero] at hv
              have HX := Lib.hid hxk
              clear hxk h h2 h3 o9
              go_wp2
              go_ret
              exact ⟨ret_int (by rw [HN.out, head_at HX.out]), b9⟩
end Go.Proofs.YtojnnemodikpeaaDoor
