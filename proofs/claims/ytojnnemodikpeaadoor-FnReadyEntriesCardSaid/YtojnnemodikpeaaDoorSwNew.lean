/-
  The switchboard: newSwitchboard.
-/
import Derived.Test.YtojnnemodikpeaaDoorSwDoA
import Derived.Conc.SmallLaws
import Derived.Deep.CutRange
namespace Go.Proofs.YtojnnemodikpeaaDoor
open Go.RowKit Go.Conc
set_option linter.unusedVariables false
/-- k lines are laid. -/
structure NewSw (w wr : World) (rooms : List Int) (k gl cl : Nat) (cs : List Nat) : Prop where
  st : wr.heap[w.heap.size + 3]? = some (.cells #[.slice (some ⟨gl, 0, none⟩) (k + 1) cl, .map (some (w.heap.size + 1)), .map (some (w.heap.size + 2))] 80)
  lines : wr.ownsRow w.heap.size 81 1 (.slice (some ⟨gl, 0, none⟩) (k + 1) cl) (k + 1) (.chan none :: cs.map fun c => .chan (some c))
  len : cs.length = k
  mc : wr.heap[w.heap.size + 1]? = some (.map #[] 0)
  mt : wr.heap[w.heap.size + 2]? = some (.map #[] 0)
  chans : ∀ (i c : Nat) (r : Int), cs[i]? = some c → rooms[i]? = some r → w.heap.size ≤ c ∧ wr.heap[c]? = some (.chan r.toNat #[] false 0 0 false)
  fresh : ∀ c ∈ cs, c < wr.heap.size
  nodup : cs.Nodup
  B : Below w.heap.size w wr
theorem NewSw.ok {w wr : World} {rooms : List Int} {k gl cl : Nat} {cs : List Nat} (h : NewSw w wr rooms k gl cl cs) (hk : rooms.length = k) (hr : ∀ r ∈ rooms, 0 ≤ r) : SwOk wr w.heap.size ⟨w.heap.size + 3, gl, cl, w.heap.size + 1, w.heap.size + 2, cs⟩ (openF rooms) := by
  have hl := h.len
  have go : ∀ (i c : Nat) (l : Ln), cs[i]? = some c → (openF rooms)[i + 1]? = some l → ∃ r, rooms[i]? = some r ∧ l = ⟨r, [], false, []⟩ := by
    intro i c l hc hl
    unfold openF at hl
    rw [List.getElem?_cons_succ, List.getElem?_map] at hl
    cases hq : rooms[i]? with
    | none => rw [hq] at hl; cases hl
    | some r => rw [hq] at hl; injection hl with hl; exact ⟨r, rfl, hl.symm⟩
  refine ⟨by rw [hl]; exact h.st, by simp, by rw [hl]; exact h.lines, by rw [openF_len, hk]; exact congrArg (· + 1) hl.symm, rfl, ?_, h.nodup, ⟨by simp, [], ⟨#[], 0, h.mc, by simp [EsOf]⟩, ?_⟩, ⟨by simp, [], ⟨#[], 0, h.mt, by simp [EsOf]⟩, ?_, ?_⟩, by simp⟩
  · intro i c l hc hl
    obtain ⟨r, hr1, rfl⟩ := go i c l hc hl
    obtain ⟨q1, q2⟩ := h.chans i c r hc hr1
    exact ⟨q1, hr r (List.mem_of_getElem? hr1), 0, 0, q2⟩
  · intro i c l hc hl
    obtain ⟨r, hr1, rfl⟩ := go i c l hc hl
    rfl
  · intro i c l hc hl
    obtain ⟨r, hr1, rfl⟩ := go i c l hc hl
    exact .inl ⟨rfl, rfl⟩
  · intro c c' b _ _ hb
    simp [lookC, takenBlk] at hb
theorem setCell_heap {w : World} {b : Nat} {v : Value} {c : Nat} (h : c ≠ b) : (w.setCell ⟨b, 0, none⟩ v).heap[c]? = w.heap[c]? := by
  simp only [World.setCell]
  rw [Array.getElem?_modify, if_neg (fun e => h e.symm)]
theorem setCell_self {w : World} {b : Nat} {v x y z : Value} {T : TypeId} (h : w.heap[b]? = some (.cells #[x, y, z] T)) : (w.setCell ⟨b, 0, none⟩ v).heap[b]? = some (.cells #[v, y, z] T) := by
  simp only [World.setCell]
  rw [Array.getElem?_modify, if_pos rfl, h]; rfl
theorem NewSw.step {w wr w3 : World} {rooms : List Int} {k gl cl g2 c2n : Nat} {cs : List Nat} {x : Int} (St : NewSw w wr rooms k gl cl cs) (hx : rooms[k]? = some x)
    (hown : w3.ownsRow w.heap.size 81 1 (.slice (some ⟨g2, 0, none⟩) (k + 1 + 1) c2n) (k + 1 + 1) ((.chan none :: cs.map fun c => .chan (some c)) ++ [.chan (some wr.heap.size)]))
    (hgr : World.grownBy (((wr.alloc (.chan x.toNat #[] false 0 0 false)).alloc (.cells #[.chan (some wr.heap.size)] 81)).drew) w3 (some gl)) (hat : gl = g2 ∨ g2 = wr.heap.size + 2) :
    NewSw w (w3.setCell ⟨w.heap.size + 3, 0, none⟩ (.slice (some ⟨g2, 0, none⟩) (k + 1 + 1) c2n)) rooms (k + 1) g2 c2n (cs ++ [wr.heap.size]) := by
  obtain ⟨hg0, arr, kgl, _⟩ := row_blk St.lines
  have zgl := blk_lt kgl
  have zst := blk_lt St.st
  have nst : w.heap.size + 3 ≠ gl := blk_ne St.st kgl (by simp)
  have nmc : w.heap.size + 1 ≠ gl := blk_ne St.mc kgl (by simp)
  have nmt : w.heap.size + 2 ≠ gl := blk_ne St.mt kgl (by simp)
  have kk : ∀ b, b < wr.heap.size → b ≠ gl → w3.heap[b]? = wr.heap[b]? := fun b hb hne => by
    rw [hgr.block b (by simp; omega) (by simp; exact hne)]
    exact (Below.heap_alloc _ _ _ (by simp; omega)).trans (Below.heap_alloc _ _ _ hb)
  have kn : w3.heap[wr.heap.size]? = some (.chan x.toNat #[] false 0 0 false) := by
    rw [hgr.block wr.heap.size (by simp; omega) (by simp; omega)]
    exact blk_alloc (heap_alloc_new _ _) _
  have z3 : wr.heap.size + 2 ≤ w3.heap.size := by have := hgr.size; simpa using this
  have hs : ∀ b, b ≠ w.heap.size + 3 → (w3.setCell ⟨w.heap.size + 3, 0, none⟩ (.slice (some ⟨g2, 0, none⟩) (k + 1 + 1) c2n)).heap[b]? = w3.heap[b]? := fun b hb => setCell_heap hb
  have hz : (w3.setCell ⟨w.heap.size + 3, 0, none⟩ (.slice (some ⟨g2, 0, none⟩) (k + 1 + 1) c2n)).heap.size = w3.heap.size := by simp
  have hst3 := (kk _ zst nst).trans St.st
  have nch : ∀ c ∈ cs, c ≠ gl ∧ c ≠ w.heap.size + 3 ∧ c < wr.heap.size → True := fun _ _ _ => trivial
  refine ⟨setCell_self hst3, ?_, by simp [St.len], ?_, ?_, ?_, ?_, ?_, ?_⟩
  · have : (Value.chan none :: (cs ++ [wr.heap.size]).map fun c => Value.chan (some c)) = (.chan none :: cs.map fun c => .chan (some c)) ++ [.chan (some wr.heap.size)] := by simp
    rw [this]
    obtain ⟨_, arr2, k2, _⟩ := row_blk hown
    exact row_at hown (hs g2 (fun e => by rw [e, hst3] at k2; injection k2 with k2; injection k2 with _ k2; cases k2))
  · rw [hs _ (by omega), kk _ (by omega) nmc]; exact St.mc
  · rw [hs _ (by omega), kk _ (by omega) nmt]; exact St.mt
  · intro i c r hc hr
    rcases Nat.lt_or_ge i k with hik | hik
    · rw [List.getElem?_append_left (by rw [St.len]; exact hik)] at hc
      obtain ⟨q1, q2⟩ := St.chans i c r hc hr
      refine ⟨q1, ?_⟩
      rw [hs _ (blk_ne q2 St.st (by simp)), kk _ (blk_lt q2) (blk_ne q2 kgl (by simp))]; exact q2
    · rw [List.getElem?_append_right (by rw [St.len]; exact hik), St.len] at hc
      have : i = k := by
        have := (List.getElem?_eq_some_iff.1 hc).1
        simp at this; omega
      subst this
      rw [Nat.sub_self] at hc
      simp at hc; subst hc
      rw [hx] at hr; injection hr with hr; subst hr
      exact ⟨St.B.size, by rw [hs _ (by omega)]; exact kn⟩
  · intro c hc
    rw [hz]
    rcases List.mem_append.1 hc with hc | hc
    · have := St.fresh c hc; omega
    · rw [List.mem_singleton] at hc; omega
  · refine List.nodup_append.2 ⟨St.nodup, by simp, fun a ha b hb => ?_⟩
    rw [List.mem_singleton] at hb
    have := St.fresh a ha
    omega
  · have zB := St.B.size
    refine St.B.trans ⟨?_, ?_, ?_, by rw [hz]; omega, fun b hb => ?_⟩
    · exact hgr.os
    · exact hgr.tape
    · exact hgr.output
    · rw [hs _ (by omega), kk _ (by omega) (by omega)]
theorem info_chan : (Tryd.prog.info? 81).map (fun i => (i.zero, i.size, i.bytes)) = some (some (.chan none), 1, 8) := by kernel_rfl
theorem make_chans (n : Nat) (hn : n ≤ 1048576) : ∃ cs : Array Value, cs.size = n + 1 ∧ cs[0]? = some (.chan none) ∧ ∀ w : World, (Instr.makeSlice 76 (.int .i64 1) (.int .i64 ((n : Int) + 1))).run Tryd.prog w = .ok (.slice (some ⟨w.heap.size, 0, none⟩) 1 (n + 1)) (w.alloc (.cells cs 81)) := by
  obtain ⟨i, hi, hz, hs, hb⟩ := info_parts info_chan
  refine ⟨madeCells (Value.cells (.chan none)) ((n + 1) * 1), by rw [size_madeCells]; omega, ?_, fun w => ?_⟩
  · rw [Nat.mul_one, ← Array.getElem?_toList, show (Value.chan none).cells = #[.chan none] from rfl, toList_madeCells_one]; rfl
  · have := run_make (P := Tryd.prog) w 76 81 i _ Tryd.underlying76 hi hz .i64 .i64 1 (n + 1) (by omega) (by omega) (by rw [hb]; omega) (by omega)
    rw [hs] at this
    exact this
theorem mk_chan (x : Int) (h0 : 0 ≤ x) (h8 : x ≤ 8) (w : World) : (Instr.makeChan 81 (.int .i64 x)).run Tryd.prog w = .ok (.chan (some w.heap.size)) (w.alloc (.chan x.toNat #[] false 0 0 false)) := by
  obtain ⟨i, hi, hz, hs, hb⟩ := info_parts info_int
  obtain ⟨n, rfl⟩ := Int.eq_ofNat_of_zero_le h0
  exact run_makeChan (P := Tryd.prog) und_chan hi .i64 n (by omega) (by rw [hb]; omega)
set_option maxRecDepth 20000 in
set_option maxHeartbeats 4000000 in
theorem new_any {w : World} {rooms : List Int} {lo hi n c : Nat} {A : Option Addr} (h : Slc w lo hi 1 A n c (ints rooms)) (hr : roomsB rooms = true) :
    Calls Tryd.prog 63 #[.slice A n c] w fun e w' =>
      ∃ S, e = .returned (.pointer (some ⟨S.sp, 0, none⟩)) ∧ SwOk w' w.heap.size S (openF rooms) ∧ S.cs.length = rooms.length ∧ Below w.heap.size w w' := by
  have hln := h.length
  obtain ⟨⟨hr1, hr6⟩, hrr⟩ : (1 ≤ rooms.length ∧ rooms.length ≤ 6) ∧ ∀ r ∈ rooms, 0 ≤ r ∧ r ≤ 8 := by
    unfold roomsB at hr
    simp only [Bool.and_eq_true, decide_eq_true_eq, List.all_eq_true] at hr
    exact ⟨hr.1, fun r h => by have := hr.2 r h; simpa [roomB, inB] using this⟩
  obtain ⟨cs0, hcs0, hcz, hmk⟩ := make_chans n (by omega)
  have hmw := hmk w
  have hmm := @run_makeMap Tryd.prog
  have HC0 := Lib.hid (And.intro hcs0 hcz)
  have HR := Lib.hid hrr
  have HL := Lib.hid hln
  have hn6 : (n : Int) ≤ 6 := by omega
  obtain ⟨i0, hi0, hz0, hz1, hz2⟩ := info_parts info_chan
  have HI := Lib.hid (And.intro hi0 (And.intro hz0 (And.intro hz1 hz2)))
  clear hcs0 hcz hrr hr hln hmk hi0 hz0 hz1 hz2 hr1 hr6
  go_enter Tryd.func63, Tryd.ntmps63
  go_wp2
  go_loopw [16] (fun i wr => ∃ (k gl cl : Nat) (cs : List Nat), k ≤ n ∧ i = .int .i64 k ∧ NewSw w wr rooms k gl cl cs) (fun i _ => n - (intOf i).toNat)
  case atStart =>
    refine ⟨0, w.heap.size, n + 1, [], Nat.zero_le _, rfl, ?_⟩
    refine ⟨?_, ?_, rfl, ?_, ?_, by simp, by simp, by simp, ?_⟩
    · exact heap_new' _ _ (by simp)
    · exact ⟨rfl, .inr ⟨w.heap.size, n + 1, cs0, rfl, Nat.le_refl _, blk_alloc (blk_alloc (blk_alloc (heap_alloc_new _ _) _) _) _, by omega, by unfold maxLen; omega, by rw [HC0.out.1]; omega, by
        have := HC0.out.2
        rw [← Array.getElem?_toList] at this
        cases hq : cs0.toList with
        | nil => rw [hq] at this; cases this
        | cons x xs => rw [hq] at this; simp at this; subst this; rfl⟩⟩
    · exact blk_alloc (blk_alloc (heap_new' _ _ (by simp)) _) _
    · exact blk_alloc (heap_new' _ _ (by simp)) _
    · exact below_al (below_al (below_al (below_al (Below.refl _ _) _) _) _) _
  case round =>
    obtain ⟨k, gl, cl, cs, hk, rfl, St⟩ := hrel
    by_cases hlt : k < n
    · have h' := h.below St.B
      obtain ⟨b, off, x, hA, _, _, h3, hxk, hv0⟩ := h'.cellAt hlt
      subst hA
      obtain ⟨x0, x8⟩ := HR.out x (List.mem_of_getElem? hxk)
      have ec := blk_cell St.st
      have hmc := fun W => mk_chan x x0 x8 W
      have zw := St.B.size
      have zst := blk_lt St.st
      have i0' : (0 : Int) ≤ (k : Int) := by omega
      have i1 : (k : Int) < (n : Int) := by omega
      have HST := Lib.hid (And.intro St (And.intro hxk x0))
      have hst1 : ((wr.alloc (.chan x.toNat #[] false 0 0 false)).alloc (.cells #[.chan (some wr.heap.size)] 81)).heap[w.heap.size + 3]? = _ := blk_alloc (blk_alloc St.st _) _
      have hgl : ¬ some (w.heap.size + 3) = (Value.slice (some ⟨gl, 0, none⟩) (k + 1) cl).ownBlock := by
        obtain ⟨_, arr, k2, _⟩ := row_blk St.lines
        simp only [Value.ownBlock]
        intro e; injection e with e
        exact blk_ne St.st k2 (by simp) e
      have ec1 := blk_cell (blk_alloc St.st (.chan x.toNat #[] false 0 0 false))
      have ec2 := blk_cell hst1
      have HS1 := Lib.hid (And.intro hst1 hgl)
      clear hgl
      obtain ⟨hi0, hz0, hz1, hz2⟩ := HI.out
      have HH := Lib.hid hi0
      clear St h' hxk hst1 hi0
      go_upto_region 5 with fail
      go_region_law (first
        | (refine step_append_lies _ rfl (.tmp 24) (.tmp 27) 76 rfl w.heap.size 81 i0 (.chan none) 1 8 Tryd.underlying76 HH.out hz0 hz1 hz2 rfl (by decide) (.slice (some ⟨gl, 0, none⟩) (k + 1) cl) (k + 1) (.chan none :: cs.map fun c => .chan (some c)) rfl ?c1 ⟨_, 0, none⟩ 1 1 [.chan (some wr.heap.size)] rfl rfl ?c2 (by simp [Value.oneCell']) (by decide) ?c5 ?c6 ?c7 _ rfl ?_; (case c1 => exact row_below' HST.out.1.lines (by (repeat' (first | with_reducible assumption | with_reducible exact Below.refl _ _ | with_reducible apply below_al | with_reducible apply below_drew)))); (case c2 => exact World.news_of_block (cs := #[.chan (some wr.heap.size)]) (by ((try with_reducible apply blk_drew); (first | with_reducible assumption | (with_reducible refine heap_new' _ _ ?_; simp) | (with_reducible refine blk_alloc ?_ _; first | with_reducible assumption | (with_reducible refine heap_new' _ _ ?_; simp)) | (with_reducible refine blk_alloc ?_ _; with_reducible refine blk_alloc ?_ _; first | with_reducible assumption | (with_reducible refine heap_new' _ _ ?_; simp)) | (with_reducible refine blk_alloc ?_ _; with_reducible refine blk_alloc ?_ _; with_reducible refine blk_alloc ?_ _; first | with_reducible assumption | (with_reducible refine heap_new' _ _ ?_; simp)))))); (case c5 => unfold maxLen; omega); (case c6 => omega); (case c7 => first | omega | (simp; omega)); intro g2 c2n w3 hown2 hgr2 hat2 hlt2; have HO2 := Lib.hid hown2; have HG2 := Lib.hid hgr2; have HAT := Lib.hid hat2; have hst3 := (hgr2.block (w.heap.size + 3) (by first | (simp; done) | (simp; omega)) HS1.out.2).trans (by first | exact HS1.out.1 | exact blk_drew HS1.out.1); have ec3 := blk_cell hst3; have fc3 := blk_frozen' hst3; have HM3 := Lib.hid hst3; clear hown2 hgr2 hat2 hst3))
      all_goals
        go_wp2_with fail
        go_roundw
        case rel => exact ⟨k + 1, g2, c2n, cs ++ [wr.heap.size], by omega, by go_num, HST.out.1.step HST.out.2.1 HO2.out HG2.out (by have := HAT.out; simpa [Value.ownBlock] using this)⟩
        case measure => simp [intOf]; omega
    · have e : k = n := by omega
      subst e
      go_wp2
      go_ret
      exact ⟨⟨_, gl, cl, _, _, cs⟩, rfl, St.ok HL.out (fun r hr => (HR.out r hr).1), by rw [HL.out]; exact St.len, St.B⟩
end Go.Proofs.YtojnnemodikpeaaDoor
