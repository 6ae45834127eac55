/-
  FaultTicks, of the program and of the reference.
-/
import Derived.Test.YtgcnhojiaaonmaaFaults
import Derived.OwnWalk
namespace Go.Proofs.Ytgcnhojiaaonmaa
open Go.RowKit
set_option linter.unusedVariables false
def tickB (t : Nat) (xs : List Int) : Bool := xs[t]? == some 0
def tickRow (t : Nat) (xss : List (List Int)) : List Int := (xss.filter (tickB t)).map fun _ => (t : Int)
def faultsUpto (T : Nat) (xss : List (List Int)) : List Int := (List.range T).flatMap fun t => tickRow t xss
theorem tickRow_snoc (t : Nat) (l : List (List Int)) (x : List Int) : tickRow t (l ++ [x]) = tickRow t l ++ if tickB t x then [(t : Int)] else [] := by
  unfold tickRow; rw [List.filter_append, List.map_append]; by_cases h : tickB t x = true <;> simp [h]
theorem faultsUpto_succ (T : Nat) (xss : List (List Int)) : faultsUpto (T + 1) xss = faultsUpto T xss ++ tickRow T xss := by
  unfold faultsUpto; rw [List.range_succ, List.flatMap_append]; simp
theorem tickRow_len (t : Nat) (l : List (List Int)) : (tickRow t l).length ≤ l.length := by unfold tickRow; rw [List.length_map]; exact List.length_filter_le _ _
theorem faultsUpto_len (T : Nat) (xss : List (List Int)) : (faultsUpto T xss).length ≤ T * xss.length := by
  induction T with
  | zero => simp [faultsUpto]
  | succ T ih => rw [faultsUpto_succ, List.length_append, Nat.succ_mul]; have := tickRow_len T xss; omega
theorem longF_le {xss : List (List Int)} {m : Nat} (h : ∀ xs ∈ xss, xs.length ≤ m) : longF xss ≤ m := by
  unfold longF
  have : ∀ (l : List (List Int)) (a : Nat), a ≤ m → (∀ xs ∈ l, xs.length ≤ m) → l.foldl (fun m xs => max m xs.length) a ≤ m := by
    intro l; induction l with
    | nil => intro a ha _; exact ha
    | cons x l ih => intro a ha hh; exact ih _ (Nat.max_le.2 ⟨ha, hh x (List.mem_cons_self ..)⟩) fun xs hx => hh xs (List.mem_cons_of_mem _ hx)
  exact this xss 0 (Nat.zero_le _) h
theorem tasksB_facts {xss : List (List Int)} (h : tasksB xss = true) : 1 ≤ xss.length ∧ xss.length ≤ 4 ∧ ∀ xs ∈ xss, xs.length ≤ 20 := by
  simp only [tasksB, Bool.and_eq_true, decide_eq_true_eq, List.all_eq_true] at h
  refine ⟨h.1.1, h.1.2, fun xs hx => ?_⟩
  have := h.2 xs hx
  simp only [rowB, Bool.and_eq_true, decide_eq_true_eq] at this
  exact this.1
/-- A new slice that reads as xs, or nil; nothing that was there has changed. -/
def NewOwn (w : World) (xs : List Int) (ok : Bool) (e : Ending) (w' : World) : Prop :=
  ∃ A n c, e = .returned (.tuple #[.slice A n c, .bool ok]) ∧ Own w' w.heap.size w'.heap.size A n c xs ∧ Below w.heap.size w w'
theorem own_of_row {w : World} {base n : Nat} {v : Value} {xs : List Int} (h : w.ownsRow base 3 1 v n (ints xs)) : ∃ A c, v = .slice A n c ∧ Own w base w.heap.size A n c xs := by
  obtain ⟨hl, h | ⟨g, cap, cur, rfl, hb, hg, hn, hc, hsz, ht⟩⟩ := h
  · obtain ⟨rfl, rfl⟩ := h
    exact ⟨none, 0, rfl, ⟨⟨hl, Nat.le_refl _, Nat.zero_le _, fun h => absurd h (by omega)⟩, fun h => absurd h (by omega)⟩⟩
  · refine ⟨_, cap, rfl, ⟨⟨hl, hn, hc, fun h0 => ⟨g, 0, rfl, hb, blk_lt hg, blk_lt hg, fun j v hv => ?_⟩⟩, fun h0 => ⟨g, cur, rfl, hg, by omega⟩⟩⟩
    rw [Nat.zero_add, blk_cell hg]
    rw [← ht] at hv
    have hj : j < n * 1 := by
      rcases Nat.lt_or_ge j (n * 1) with h | h
      · exact h
      · rw [List.getElem?_eq_none (by rw [List.length_take]; omega)] at hv; cases hv
    rw [List.getElem?_take_of_lt hj] at hv
    simpa using hv
theorem owns_empty {w : World} {base g : Nat} (hb : base ≤ g) (hg : w.heap[g]? = some (.cells #[] 3)) : w.ownsRow base 3 1 (.slice (some ⟨g, 0, none⟩) 0 0) 0 (ints []) :=
  ⟨rfl, .inr ⟨g, 0, #[], rfl, hb, hg, Nat.le_refl _, Nat.zero_le _, rfl, rfl⟩⟩
theorem owns_below {w w' : World} {base n : Nat} {v : Value} {xs : List Value} (h : w.ownsRow base 3 1 v n xs) (hb : ∀ b, b < w.heap.size → w'.heap[b]? = w.heap[b]?) : w'.ownsRow base 3 1 v n xs := by
  obtain ⟨hl, h | ⟨g, cap, cur, rfl, h1, hg, h2⟩⟩ := h
  · exact ⟨hl, .inl h⟩
  · exact ⟨hl, .inr ⟨g, cap, cur, rfl, h1, (hb g (blk_lt hg)).trans hg, h2⟩⟩
theorem below_row {W W' : World} {base n : Nat} {v : Value} {xs : List Value} {w0 : World} (h : w0.ownsRow base 3 1 v n xs) (g : W.grownBy W' v.ownBlock) (hb : base ≤ W.heap.size) : Below base W W' :=
  ⟨g.os, g.tape, g.output, g.size, fun i hi => g.block i (by omega) (by
    obtain ⟨_, h | ⟨b, cap, cur, rfl, h1, _⟩⟩ := h
    · rw [h.1]; simp [Value.ownBlock]
    · simp [Value.ownBlock]; omega)⟩
theorem owns_cast {w : World} {base n n' : Nat} {v : Value} {xs ys : List Value} (h : w.ownsRow base 3 1 v n xs) (e : xs = ys) (e' : n = n') : w.ownsRow base 3 1 v n' ys := e ▸ e' ▸ h
set_option maxHeartbeats 2000000 in
theorem impl_FaultTicks_yes (lo hi lo2 hi2 n c : Nat) (A : Option Addr) (rs : List Row) (w : World) (h : Mat w lo hi lo2 hi2 A n c rs) (hn : n ≤ 1048576) (hr : ∀ r ∈ rs, r.n ≤ 1048576) (hT : tasksB (rs.map Row.xs) = true) :
    Calls Try.prog 45 #[.slice A n c] w (NewOwn w (faultsUpto (longF (rs.map Row.xs)) (rs.map Row.xs)) true) := by
  obtain ⟨t1, t2, t3⟩ := tasksB_facts hT
  have hlen := h.length
  rw [List.length_map, hlen] at t1 t2
  have hT20 : longF (rs.map Row.xs) ≤ 20 := longF_le t3
  obtain ⟨T, hTe⟩ : ∃ T, T = longF (rs.map Row.xs) := ⟨_, rfl⟩
  rw [← hTe] at hT20
  have HTE := Lib.hid hTe
  have hl := Lib.hid hlen
  have HR := Lib.hid hr
  have HTB := Lib.hid hT
  obtain ⟨i0, hi, hz0, hz1, hz2⟩ := info_parts info_int
  have HI := Lib.hid (And.intro hi (And.intro hz0 (And.intro hz1 hz2)))
  clear hr t3 hT hlen hTe hi hz0 hz1 hz2
  go_enter Try.func45, Try.ntmps45
  go_wp2_with fail
  refine (impl_TasksValid _ _ _ _ _ _ _ _ _ h hn HR.out).mono ?_
  rintro e w' ⟨rfl, rfl⟩
  rw [HTB.out]
  go_wp2_with fail
  refine (impl_longest _ _ _ _ _ _ _ _ _ (h.below ((Below.refl _ _).alloc (Nat.le_refl _) _)) hn HR.out).mono ?_
  rintro e w1 ⟨rfl, rfl⟩
  rw [← HTE.out]
  go_wp2
  go_loopw [4, 14] (fun v i wr => ∃ k : Nat, k ≤ T ∧ i = .int .i64 k ∧ Below w'.heap.size w' wr ∧ wr.ownsRow w'.heap.size 3 1 v (faultsUpto k (rs.map Row.xs)).length (ints (faultsUpto k (rs.map Row.xs)))) (fun _ i _ => T - (intOf i).toNat)
  case atStart => exact ⟨0, Nat.zero_le _, rfl, below_al (Below.refl _ _) _, owns_empty (Nat.le_refl _) (heap_alloc_new _ _)⟩
  case round =>
    obtain ⟨k, hk, rfl, B, hown⟩ := hrel
    have HO := Lib.hid hown
    clear hown
    by_cases hlt : k < T
    · obtain ⟨wo, rfl⟩ : ∃ wo : World, wo = wr := ⟨_, rfl⟩
      go_wp2
      go_loopw [4, 19] (fun v i wr => ∃ m : Nat, m ≤ n ∧ i = .int .i64 m ∧ Below w'.heap.size w' wr ∧ wr.ownsRow w'.heap.size 3 1 v (faultsUpto k (rs.map Row.xs) ++ tickRow k ((rs.map Row.xs).take m)).length (ints (faultsUpto k (rs.map Row.xs) ++ tickRow k ((rs.map Row.xs).take m)))) (fun _ i _ => n - (intOf i).toNat)
      case atStart => exact ⟨0, Nat.zero_le _, rfl, B, by simpa [tickRow] using HO.out⟩
      case round =>
        obtain ⟨m, hm, rfl, B2, hown⟩ := hrel
        by_cases hlm : m < n
        · obtain ⟨b, off, r, rfl, _, _, h3, hxk, hmem, hv, hrow⟩ := (h.below B2).rowAt hlm
          have hrn := HR.out r hmem
          have hrl := hrow.length
          have HX := Lib.hid (show (rs.map Row.xs)[m]? = some r.xs by rw [List.getElem?_map, hxk]; rfl)
          have HTS := Lib.hid (show tickRow k ((rs.map Row.xs).take (m + 1)) = tickRow k ((rs.map Row.xs).take m) ++ if tickB k r.xs then [(k : Int)] else [] by rw [take_snoc' HX.out, tickRow_snoc])
          have hlen : (faultsUpto k (rs.map Row.xs) ++ tickRow k ((rs.map Row.xs).take m)).length ≤ 84 := by
            rw [List.length_append]
            have a1 := faultsUpto_len k (rs.map Row.xs)
            have a2 := tickRow_len k ((rs.map Row.xs).take m)
            rw [List.length_take] at a2
            have a3 : k * (rs.map Row.xs).length ≤ 20 * 4 := Nat.mul_le_mul (by omega) (by rw [List.length_map, hl.out]; exact t2)
            omega
          have HOW := Lib.hid hown
          have HRL := Lib.hid hrl
          clear hxk hmem h hown hrl
          by_cases hkr : k < r.n
          · obtain ⟨b2, off2, x, hA2, _, _, _, hxm, hv2⟩ := hrow.cellAt hkr
            rw [hA2] at hv
            have HXM := Lib.hid hxm
            clear hxm hrow hA2
            by_cases hx : x = 0
            · subst hx
              have HTB2 := Lib.hid (show tickB k r.xs = true by simp [tickB, HXM.out])
              obtain ⟨hi, hz0, hz1, hz2⟩ := HI.out
              have HH := Lib.hid hi
              clear hi
              go_wp2_with (at_builtin; refine wpList_append_own_at _ rfl _ _ 54 rfl w'.heap.size 3 i0 (.int .i64 0) 1 8 Try.underlying54 HH.out hz0 hz1 hz2 rfl (by decide) _ _ _ rfl (owns_below HOW.out (fun b hb => Below.heap_alloc _ _ b hb)) ⟨wr.heap.size, 0, none⟩ 1 1 [.int .i64 (k : Int)] rfl rfl (cell_one_new _ _ _) (by simp [Value.oneCell']) (by unfold maxLen; omega) (by omega) (by have := B2.size; simp; omega) ?_; intro v' w2 hown2 hgr _ hblk)
              have HO2 := Lib.hid hown2
              have HG := Lib.hid hgr
              clear hown2 hgr hblk hz0 hz1 hz2
              go_wp2
              go_roundw
              case rel => exact ⟨m + 1, by omega, by go_num, (below_al B2 _).trans (below_row HOW.out HG.out (by have := B2.size; simp; omega)), owns_cast HO2.out (by rw [HTS.out, HTB2.out]; simp [ints]) (by rw [HTS.out, HTB2.out]; simp; omega)⟩
              case measure => simp [intOf]; omega
            · have HTB2 := Lib.hid (show tickB k r.xs = false by simp [tickB, HXM.out, hx])
              have hxb : (x == 0) = false := by simp [hx]
              have HX0 := Lib.hid hx
              clear hx
              go_wp2
              go_roundw
              case rel => exact ⟨m + 1, by omega, by go_num, B2, owns_cast HOW.out (by rw [HTS.out, HTB2.out]; simp) (by rw [HTS.out, HTB2.out]; simp)⟩
              case measure => simp [intOf]; omega
          · have HTB2 := Lib.hid (show tickB k r.xs = false by unfold tickB; rw [List.getElem?_eq_none (by rw [HRL.out]; omega)]; rfl)
            clear hrow
            go_wp2
            go_roundw
            case rel => exact ⟨m + 1, by omega, by go_num, B2, owns_cast HOW.out (by rw [HTS.out, HTB2.out]; simp) (by rw [HTS.out, HTB2.out]; simp)⟩
            case measure => simp [intOf]; omega
        · have e : m = n := by omega
          have HE := Lib.hid e
          have HOW := Lib.hid hown
          have HFS := Lib.hid (faultsUpto_succ k (rs.map Row.xs))
          have HTK := Lib.hid (show (rs.map Row.xs).take m = rs.map Row.xs by rw [HE.out]; exact List.take_of_length_le (by rw [List.length_map, hl.out]; exact Nat.le_refl _))
          clear e hown
          go_wp2
          go_roundw
          case rel => exact ⟨k + 1, by omega, by go_num, B2, owns_cast HOW.out (by rw [HFS.out, HTK.out]) (by rw [HFS.out, HTK.out])⟩
          case measure => simp [intOf]; omega
    · have e : k = T := by omega
      have HE := Lib.hid e
      clear e h
      go_wp2
      go_ret2
      have e2 : k = longF (rs.map Row.xs) := by rw [HE.out, HTE.out]
      obtain ⟨A1, c1, rfl, ho⟩ := own_of_row (owns_cast HO.out (ys := ints (faultsUpto (longF (rs.map Row.xs)) (rs.map Row.xs))) (n' := (faultsUpto (longF (rs.map Row.xs)) (rs.map Row.xs)).length) (by rw [e2]) (by rw [e2]))
      exact ⟨_, _, _, rfl, ho, B⟩
theorem own_nil (w : World) : Own w w.heap.size w.heap.size none 0 0 [] := ⟨⟨rfl, Nat.le_refl _, Nat.zero_le _, fun h => absurd h (by omega)⟩, fun h => absurd h (by omega)⟩
/-- What FaultTicks answers. -/
def ticksF (xss : List (List Int)) : List Int := if tasksB xss = true then faultsUpto (longF xss) xss else []
set_option maxHeartbeats 1000000 in
theorem impl_FaultTicks (lo hi lo2 hi2 n c : Nat) (A : Option Addr) (rs : List Row) (w : World) (h : Mat w lo hi lo2 hi2 A n c rs) (hn : n ≤ 1048576) (hr : ∀ r ∈ rs, r.n ≤ 1048576) :
    Calls Try.prog 45 #[.slice A n c] w (NewOwn w (ticksF (rs.map Row.xs)) (tasksB (rs.map Row.xs))) := by
  by_cases hT : tasksB (rs.map Row.xs) = true
  · rw [ticksF, if_pos hT, hT]; exact impl_FaultTicks_yes lo hi lo2 hi2 n c A rs w h hn hr hT
  · have hT' : tasksB (rs.map Row.xs) = false := by simpa using hT
    rw [ticksF, if_neg hT, hT']
    have HTB := Lib.hid hT'
    have HR := Lib.hid hr
    clear hr hT hT'
    go_enter Try.func45, Try.ntmps45
    go_wp2_with fail
    refine (impl_TasksValid _ _ _ _ _ _ _ _ _ h hn HR.out).mono ?_
    rintro e w' ⟨rfl, rfl⟩
    rw [HTB.out]
    clear h
    go_wp2
    go_ret2
    exact ⟨none, 0, 0, rfl, own_nil _, Below.refl _ _⟩
end Go.Proofs.Ytgcnhojiaaonmaa
