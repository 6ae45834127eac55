/-
  FaultsNeeded of the program.
-/
import Derived.Test.YtgcnhojiaaonmaaNeedI
import Derived.Laws.OwnMore
namespace Go.Proofs.Ytgcnhojiaaonmaa
open Go.RowKit
set_option linter.unusedVariables false
theorem make_20 : ∃ cs : Array Value, cs.size = 20 ∧ (∀ j, j < 20 → cs[j]? = (ints (cnts []))[j]?) ∧ ∀ w : World, (Instr.makeSlice 54 (.int .i64 20) (.int .i64 20)).run Try.prog w = .ok (.slice (some ⟨w.heap.size, 0, none⟩) 20 20) (w.alloc (.cells cs 3)) :=
  ⟨madeCells #[.int .i64 0] 20, size_madeCells _ _, fun j hj => by
    have : ints (cnts []) = List.replicate 20 (.int .i64 0) := rfl
    rw [this, ← toList_madeCells_one, Array.getElem?_toList], fun w => run_make_row' 54 3 (.int .i64 0) 8 Try.underlying54 info_int rfl .i64 .i64 20 (by omega) (by omega) w⟩
theorem cntF_take {l : List Int} {k : Nat} {x : Int} (h : l[k]? = some x) (u : Nat) : cntF (l.take (k + 1)) u = cntF (l.take k) u + if x = u then 1 else 0 := by
  rw [take_snoc' h]; unfold cntF; rw [List.countP_append]; by_cases e : x = (u : Int) <;> simp [e]
theorem cnts_at (l : List Int) {u : Nat} (h : u < 20) : (ints (cnts l))[u]? = some (.int .i64 (cntF l u)) := by unfold ints; rw [List.getElem?_map, cnts_get l h]; rfl
set_option maxHeartbeats 800000 in
theorem impl_FaultsNeeded (ticks : Int) (lo hi lo2 hi2 n c : Nat) (A : Option Addr) (rs : List Row) (w : World) (h : Mat w lo hi lo2 hi2 A n c rs) (hn : n ≤ 1048576) (hr : ∀ r ∈ rs, r.n ≤ 1048576) :
    Calls Try.prog 48 #[.int .i64 ticks, .slice A n c] w (fun e w' => e = .returned (.int .i64 (needF ticks (rs.map Row.xs))) ∧ Below w.heap.size w w') := by
  have HR := Lib.hid hr
  clear hr
  by_cases hT : tasksB (rs.map Row.xs) = true
  · have hti3 : (1 ≤ ticks ∧ ticks ≤ 20) ∨ (ticks < 1 ∨ 20 < ticks) := by omega
    rcases hti3 with hti | hti
    · obtain ⟨q1, q2⟩ := hti
      have HNF := Lib.hid (show needF ticks (rs.map Row.xs) = (needS ticks (ticksF (rs.map Row.xs)) (ticksF (rs.map Row.xs)).length : Nat) by unfold needF; rw [if_pos ⟨hT, q1, q2⟩])
      have HF := ticksF_len (rs.map Row.xs)
      obtain ⟨F, hF⟩ : ∃ F, F = ticksF (rs.map Row.xs) := ⟨_, rfl⟩
      have hFE : F = faultsUpto (longF (rs.map Row.xs)) (rs.map Row.xs) := by rw [hF, ticksF, if_pos hT]
      have hmem : ∀ x ∈ F, 0 ≤ x ∧ x < (20 : Nat) := fun x hx => by
        rw [hFE] at hx
        have := faultsUpto_mem hx
        have := longF_le (tasksB_facts hT).2.2
        omega
      have HSO := Lib.hid (show sorted F by rw [hFE]; exact faultsUpto_sorted _ _)
      rw [← hF] at HNF HF
      have HFF := Lib.hid hF
      have HMEM := Lib.hid hmem
      have HTB := Lib.hid hT
      obtain ⟨cs0, hs0, hz0, hmk⟩ := make_20
      have HS0 := Lib.hid hs0
      have HZ0 := Lib.hid hz0
      clear hT hF hFE hmem hs0 hz0
      go_enter Try.func48, Try.ntmps48
      go_wp2_with fail
      refine (impl_FaultTicks _ _ _ _ _ _ _ _ _ h hn HR.out).mono ?_
      rintro e w1 ⟨A1, n1, c1, rfl, ho, hb⟩
      rw [← HFF.out] at ho
      rw [HTB.out]
      have hlen := ho.len
      have hn1 : n1 ≤ 1048576 := by omega
      have HL := Lib.hid hlen
      clear h hlen
      go_wp2
      go_loopw [30] (fun i wr => ∃ k : Nat, k ≤ n1 ∧ i = .int .i64 k ∧ ∃ cs, wr.heap[w1.heap.size]? = some (.cells cs 3) ∧ cs.size = 20 ∧ (∀ j, j < 20 → cs[j]? = (ints (cnts (F.take k)))[j]?) ∧ Below w1.heap.size w1 wr) (fun i _ => n1 - (intOf i).toNat)
      case atStart => exact ⟨0, Nat.zero_le _, rfl, cs0, heap_alloc_new _ _, HS0.out, HZ0.out, below_al (Below.refl _ _) _⟩
      case round =>
        obtain ⟨k, hk, rfl, cs, hb1, hsz, hcs, B⟩ := hrel
        have HB1 := Lib.hid hb1
        have HSZ := Lib.hid hsz
        have HCS := Lib.hid hcs
        have hzz1 := blk_lt hb1
        have hc1 := blk_cell hb1
        have hf1 := blk_frozen' hb1
        clear hb1 hsz hcs
        by_cases hlt : k < n1
        · obtain ⟨b, off, x, rfl, _, _, _, hxk, hv⟩ := (ho.slc.below B).cellAt hlt
          obtain ⟨x0, x1⟩ := HMEM.out x (List.mem_of_getElem? hxk)
          obtain ⟨U, rfl⟩ : ∃ U : Nat, x = U := ⟨x.toNat, by omega⟩
          have hU : U < 20 := by omega
          have hcU : cs[U]? = some (.int .i64 (cntF (F.take k) U)) := (HCS.out U hU).trans (cnts_at _ hU)
          have hcl : cntF (F.take k) U ≤ 1048576 := Nat.le_trans (cntF_le _ _) (by rw [List.length_take, HL.out]; omega)
          have HCT := Lib.hid (cntF_take hxk)
          obtain ⟨y, hy⟩ : ∃ y, y = cntF (F.take k) U := ⟨_, rfl⟩
          rw [← hy] at hcU hcl
          have HY := Lib.hid hy
          have j0 : (0 : Int) ≤ (U : Int) := by omega
          have j1 : (U : Int) < 20 := by omega
          have HSZ3 := Lib.hid (show U < cs.size by rw [HSZ.out]; exact hU)
          clear hxk ho hy x0 x1
          go_wp2
          go_roundw
          case rel => exact ⟨k + 1, by omega, by go_num, cs.setIfInBounds U (.int .i64 ((y : Int) + 1)), blk_setCell HB1.out _, by simp; exact HSZ.out, fun j hj => by
            rw [cnts_at _ hj, HCT.out j]
            by_cases e : j = U
            · subst e
              rw [Array.getElem?_setIfInBounds_self_of_lt HSZ3.out, ← HY.out, if_pos rfl]; rfl
            · rw [Array.getElem?_setIfInBounds_ne (by omega), HCS.out j hj, cnts_at _ hj, if_neg (by omega)]; rfl, B.setCell (Nat.le_refl _) _⟩
          case measure => simp [intOf]; omega
        · have e : k = n1 := by omega
          have hs : Slc wr w1.heap.size wr.heap.size 1 (some ⟨w1.heap.size, 0, none⟩) 20 20 (ints (cnts F)) :=
            slc_made HB1.out hzz1 HSZ.out (by unfold maxLen; omega) (by simp [cnts]) (fun j hj => by
              have := HCS.out j hj
              rw [List.take_of_length_le (by rw [HL.out]; omega)] at this
              exact this)
          have B2 := Lib.hid (below_step hb B)
          subst e
          clear ho hc1 hf1
          go_wp2
          go_loop [10, 43] (fun q i => ∃ t : Nat, t ≤ 20 ∧ i = .int .i64 t ∧ ∃ m : Nat, q = .int .i64 m ∧ m ≤ 1048576 ∧ m = needI ticks F t) (fun _ i => 20 - (intOf i).toNat)
          case atStart => exact ⟨0, by omega, rfl, 0, rfl, by omega, rfl⟩
          case round =>
            obtain ⟨t, ht, rfl, m, rfl, hm, hq⟩ := hrel
            have HQ := Lib.hid hq
            clear hq
            by_cases hlt2 : t < 20
            · have j0 : (t : Int) < 20 := by omega
              obtain ⟨p, hp⟩ : ∃ p, p = winF F ((t : Int) - ticks) t := ⟨_, rfl⟩
              have hpb : p ≤ 1048576 := by rw [hp]; exact Nat.le_trans (winF_len _ _ _) HF
              have HP := Lib.hid hp
              have HX := Lib.hid (show needI ticks F (t + 1) = max (needI ticks F t) p by rw [hp]; rfl)
              clear hp
              go_wp2_with fail
              refine (faultsIn_any _ _ _ _ _ _ _ _ hs HF (fun x hx => (HMEM.out x hx).1) hlt2 q1 q2).mono ?_
              rintro e wr ⟨rfl, rfl⟩
              rw [← HP.out]
              rcases Nat.lt_or_ge m p with hmp | hmp
              all_goals
                go_wp2
                go_round
                case rel => exact ⟨t + 1, by omega, by go_num, max m p, by first | exact congrArg (Value.int .i64) (max_if m p) | (rw [Nat.max_eq_right (by omega)]; done) | (rw [Nat.max_eq_left (by omega)]; done), Nat.max_le.2 ⟨hm, hpb⟩, by rw [HX.out, HQ.out]⟩
                case measure => simp [intOf]; omega
            · have e2 : t = 20 := by omega
              subst e2
              have HE := Lib.hid (show needF ticks (rs.map Row.xs) = (m : Nat) by rw [HNF.out, HQ.out, need_eq ticks (by omega) F 20 HSO.out HMEM.out])
              clear hs HQ
              go_wp2
              go_ret
              exact ⟨by rw [HE.out]; rfl, B2.out⟩
    · have HNF := Lib.hid (show needF ticks (rs.map Row.xs) = -1 by unfold needF; rw [if_neg (fun h => by omega)])
      have HTB := Lib.hid hT
      clear hT
      rcases hti with hti | hti
      all_goals
        go_enter Try.func48, Try.ntmps48
        go_wp2_with fail
        refine (impl_FaultTicks _ _ _ _ _ _ _ _ _ h hn HR.out).mono ?_
        rintro e w1 ⟨A1, n1, c1, rfl, ho, hb⟩
        rw [HTB.out]
        clear h ho
        go_wp2
        go_ret
        exact ⟨by rw [HNF.out]; rfl, hb⟩
  · have hT' : tasksB (rs.map Row.xs) = false := by simpa using hT
    have HNF := Lib.hid (show needF ticks (rs.map Row.xs) = -1 by unfold needF; rw [if_neg (fun h => hT h.1)])
    have HTB := Lib.hid hT'
    clear hT hT'
    go_enter Try.func48, Try.ntmps48
    go_wp2_with fail
    refine (impl_FaultTicks _ _ _ _ _ _ _ _ _ h hn HR.out).mono ?_
    rintro e w1 ⟨A1, n1, c1, rfl, ho, hb⟩
    rw [HTB.out]
    clear h ho
    go_wp2
    go_ret
    exact ⟨by rw [HNF.out]; rfl, hb⟩
end Go.Proofs.Ytgcnhojiaaonmaa
