/-
  FaultsNeeded: what is counted, and that both counts are one.
-/
import Derived.Test.YtgcnhojiaaonmaaFTS
import Derived.Test.YtgcnhojiaaonmaaLawFT
namespace Go.Proofs.Ytgcnhojiaaonmaa
open Go.RowKit
set_option linter.unusedVariables false
/-- How many of l are greater than d. -/
def recentF (l : List Int) (d : Int) : Nat := l.countP fun x => decide (d < x)
/-- How many of l are greater than d and not greater than t. -/
def winF (l : List Int) (d t : Int) : Nat := l.countP fun x => decide (d < x) && decide (x ≤ t)
/-- The reference's: the greatest of the prefixes' counts. -/
def needS (ticks : Int) (l : List Int) : Nat → Nat
  | 0 => 0
  | k + 1 => max (needS ticks l k) (recentF (l.take (k + 1)) (l.getD k 0 - ticks))
/-- The program's: the greatest of the ticks' windows. -/
def needI (ticks : Int) (l : List Int) : Nat → Nat
  | 0 => 0
  | t + 1 => max (needI ticks l t) (winF l ((t : Int) - ticks) t)
theorem recentF_snoc (l : List Int) (x d : Int) : recentF (l ++ [x]) d = recentF l d + if d < x then 1 else 0 := by
  unfold recentF; rw [List.countP_append]; by_cases h : d < x <;> simp [h]
theorem winF_snoc (l : List Int) (x d t : Int) : winF (l ++ [x]) d t = winF l d t + if d < x ∧ x ≤ t then 1 else 0 := by
  unfold winF; rw [List.countP_append]; by_cases h : d < x <;> by_cases h2 : x ≤ t <;> simp [h, h2]
theorem winF_le_recent (l : List Int) {d d' t : Int} (h : d' ≤ d) : winF l d t ≤ recentF l d' := by
  induction l with
  | nil => simp [winF, recentF]
  | cons x l ih =>
    unfold winF recentF at ih ⊢
    rw [List.countP_cons, List.countP_cons]
    by_cases h1 : d < x
    · have : d' < x := by omega
      by_cases h2 : x ≤ t <;> simp [h1, h2, this] <;> omega
    · simp [h1]; omega
theorem recent_le_winF (l : List Int) {d t : Int} (h : ∀ x ∈ l, x ≤ t) : recentF l d ≤ winF l d t := by
  induction l with
  | nil => simp [winF, recentF]
  | cons x l ih =>
    have ih := ih fun y hy => h y (List.mem_cons_of_mem _ hy)
    have hx := h x (List.mem_cons_self ..)
    unfold winF recentF at ih ⊢
    rw [List.countP_cons, List.countP_cons]
    by_cases h1 : d < x <;> simp [h1, hx] <;> omega
theorem needS_snoc (ticks : Int) (l : List Int) (x : Int) : ∀ k, k ≤ l.length → needS ticks (l ++ [x]) k = needS ticks l k := by
  intro k
  induction k with
  | zero => intro _; rfl
  | succ k ih =>
    intro hk
    unfold needS
    rw [ih (by omega), List.take_append_of_le_length (by omega)]
    congr 3
    rw [List.getD_eq_getElem?_getD, List.getD_eq_getElem?_getD, List.getElem?_append_left (by omega)]
theorem needS_last (ticks : Int) (l : List Int) (x : Int) : needS ticks (l ++ [x]) (l ++ [x]).length = max (needS ticks l l.length) (recentF (l ++ [x]) (x - ticks)) := by
  rw [List.length_append]
  show needS ticks (l ++ [x]) (l.length + 1) = _
  unfold needS
  rw [needS_snoc _ _ _ _ (Nat.le_refl _)]
  have e1 : (l ++ [x]).take (l.length + 1) = l ++ [x] := List.take_of_length_le (by simp)
  have e2 : (l ++ [x]).getD l.length 0 = x := by simp
  rw [e1, e2]
  cases l <;> rfl
theorem snoc_ind {P : List Int → Prop} (h0 : P []) (hs : ∀ l x, P l → P (l ++ [x])) (l : List Int) : P l := by
  have : ∀ l : List Int, P l.reverse := by
    intro l
    induction l with
    | nil => exact h0
    | cons x l ih => rw [List.reverse_cons]; exact hs _ _ ih
  have h := this l.reverse
  rwa [List.reverse_reverse] at h
def sorted (l : List Int) : Prop := l.Pairwise (· ≤ ·)
theorem win_le_needS (ticks : Int) (h0 : 0 ≤ ticks) : ∀ l : List Int, sorted l → ∀ t : Int, winF l (t - ticks) t ≤ needS ticks l l.length := by
  refine snoc_ind ?_ ?_
  · intro _ t; simp [winF]
  · intro l x ih hs t
    have hp := List.pairwise_append.1 hs
    have ih := ih hp.1
    rw [needS_last]
    by_cases ht : x ≤ t
    · exact Nat.le_trans (winF_le_recent _ (by omega)) (Nat.le_max_right ..)
    · rw [winF_snoc, if_neg (fun h => ht h.2)]
      exact Nat.le_trans (ih t) (Nat.le_max_left ..)
theorem needS_le (ticks : Int) (M : Nat) : ∀ l : List Int, sorted l → (∀ x ∈ l, winF l (x - ticks) x ≤ M) → needS ticks l l.length ≤ M := by
  refine snoc_ind ?_ ?_
  · intro _ _; exact Nat.zero_le _
  · intro l x ih hs hM
    have hp := List.pairwise_append.1 hs
    rw [needS_last]
    refine Nat.max_le.2 ⟨ih hp.1 fun y hy => ?_, ?_⟩
    · have := hM y (List.mem_append_left _ hy)
      rw [winF_snoc] at this
      omega
    · refine Nat.le_trans (recent_le_winF _ (t := x) fun y hy => ?_) (hM x (by simp))
      rcases List.mem_append.1 hy with h | h
      · exact hp.2.2 y h x (by simp)
      · simp at h; omega
theorem win_le_needI (ticks : Int) (l : List Int) : ∀ (T : Nat) (t : Nat), t < T → winF l ((t : Int) - ticks) t ≤ needI ticks l T := by
  intro T
  induction T with
  | zero => intro t h; omega
  | succ T ih =>
    intro t h
    unfold needI
    by_cases e : t = T
    · subst e; exact Nat.le_max_right ..
    · exact Nat.le_trans (ih t (by omega)) (Nat.le_max_left ..)
theorem needI_le (ticks : Int) (l : List Int) (M : Nat) : ∀ T : Nat, (∀ t : Nat, winF l ((t : Int) - ticks) t ≤ M) → needI ticks l T ≤ M := by
  intro T h
  induction T with
  | zero => exact Nat.zero_le _
  | succ T ih => exact Nat.max_le.2 ⟨ih, h T⟩
theorem need_eq (ticks : Int) (h0 : 0 ≤ ticks) (l : List Int) (T : Nat) (hs : sorted l) (hb : ∀ x ∈ l, 0 ≤ x ∧ x < T) : needI ticks l T = needS ticks l l.length := by
  refine Nat.le_antisymm (needI_le _ _ _ _ fun t => win_le_needS ticks h0 l hs t) (needS_le _ _ _ hs fun x hx => ?_)
  obtain ⟨a, b⟩ := hb x hx
  obtain ⟨m, rfl⟩ : ∃ m : Nat, x = m := ⟨x.toNat, by omega⟩
  exact win_le_needI ticks l T m (by omega)
theorem tickRow_mem {t : Nat} {l : List (List Int)} {x : Int} (h : x ∈ tickRow t l) : x = t := by
  unfold tickRow at h; obtain ⟨_, _, e⟩ := List.mem_map.1 h; exact e.symm
theorem faultsUpto_mem {T : Nat} {xss : List (List Int)} {x : Int} (h : x ∈ faultsUpto T xss) : 0 ≤ x ∧ x < T := by
  unfold faultsUpto at h
  obtain ⟨t, ht, hx⟩ := List.mem_flatMap.1 h
  have := tickRow_mem hx
  have := List.mem_range.1 ht
  omega
theorem faultsUpto_sorted (T : Nat) (xss : List (List Int)) : sorted (faultsUpto T xss) := by
  induction T with
  | zero => simp [faultsUpto, sorted]
  | succ T ih =>
    rw [faultsUpto_succ]
    refine List.pairwise_append.2 ⟨ih, ?_, fun a ha b hb => ?_⟩
    · have : ∀ l : List Int, (∀ x ∈ l, x = (T : Int)) → l.Pairwise (· ≤ ·) := by
        intro l hl
        induction l with
        | nil => exact List.Pairwise.nil
        | cons y l ih2 => exact List.Pairwise.cons (fun z hz => by have h1 := hl y (List.mem_cons_self ..); have h2 := hl z (List.mem_cons_of_mem _ hz); omega) (ih2 fun z hz => hl z (List.mem_cons_of_mem _ hz))
      exact this _ fun x hx => tickRow_mem hx
    · have := faultsUpto_mem ha
      have := tickRow_mem hb
      omega
/-- What both answer. -/
def needF (ticks : Int) (xss : List (List Int)) : Int := if tasksB xss = true ∧ 1 ≤ ticks ∧ ticks ≤ 20 then (needS ticks (ticksF xss) (ticksF xss).length : Nat) else -1
theorem recentF_take {l : List Int} {k : Nat} {x d : Int} (h : l[k]? = some x) : recentF (l.take (k + 1)) d = recentF (l.take k) d + if d < x then 1 else 0 := by rw [take_snoc' h, recentF_snoc]
theorem recentF_len (l : List Int) (d : Int) : recentF l d ≤ l.length := List.countP_le_length
set_option maxHeartbeats 1000000 in
theorem l9Recent_any (lo hi n c : Nat) (A : Option Addr) (xs : List Int) (tick ticks : Int) (w : World) (h : Slc w lo hi 1 A n c (ints xs)) (hn : n ≤ 1048576) (h0 : 0 ≤ tick) (h1 : tick ≤ 1000) (h2 : 0 ≤ ticks) (h3 : ticks ≤ 1000) :
    Calls Try.prog 60 #[.slice A n c, .int .i64 tick, .int .i64 ticks] w fun e w' => e = .returned (.int .i64 (recentF xs (tick - ticks) : Nat)) ∧ w' = w := by
  have HL := Lib.hid h.length
  go_enter Try.func60, Try.ntmps60
  go_wp2
  go_loop [7, 8] (fun q i => ∃ k : Nat, k ≤ n ∧ i = .int .i64 k ∧ ∃ m : Nat, q = .int .i64 m ∧ m ≤ k ∧ m = recentF (xs.take k) (tick - ticks)) (fun _ i => n - (intOf i).toNat)
  case atStart => exact ⟨0, Nat.zero_le _, rfl, 0, rfl, Nat.le_refl _, by simp [recentF]⟩
  case round =>
    obtain ⟨k, hk, rfl, m, rfl, hm, hq⟩ := hrel
    have HQ := Lib.hid hq
    clear hq
    by_cases hlt : k < n
    · obtain ⟨b, off, x, rfl, _, _, _, hxk, hv⟩ := h.cellAt hlt
      have HX := Lib.hid (recentF_take (d := tick - ticks) hxk)
      clear hxk h
      by_cases hx : tick - ticks < x
      · go_wp2
        go_round
        case rel => exact ⟨k + 1, by omega, by go_num, m + 1, by go_num, by omega, by rw [HX.out, if_pos hx, ← HQ.out]⟩
        case measure => simp [intOf]; omega
      · go_wp2
        go_round
        case rel => exact ⟨k + 1, by omega, by go_num, m, rfl, by omega, by rw [HX.out, if_neg hx, ← HQ.out, Nat.add_zero]⟩
        case measure => simp [intOf]; omega
    · have e : k = n := by omega
      have HE := Lib.hid (show m = recentF xs (tick - ticks) by rw [HQ.out, List.take_of_length_le (by rw [HL.out]; omega)])
      clear h
      go_wp2
      go_ret
      exact ⟨congrArg (fun z : Nat => Ending.returned (Value.int .i64 (z : Int))) HE.out, rfl⟩
end Go.Proofs.Ytgcnhojiaaonmaa
