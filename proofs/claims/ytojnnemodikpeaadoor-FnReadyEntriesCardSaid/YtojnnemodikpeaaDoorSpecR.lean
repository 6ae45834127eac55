/-
  The reference's RefusedDeeds.
-/
import Derived.Test.YtojnnemodikpeaaDoorSpecO
namespace Go.Proofs.YtojnnemodikpeaaDoor
open Go.RowKit
set_option linter.unusedVariables false
def refT (l : List UInt8) : Bool := l == tFull || l == tEmpty || l == tEnded || l == tNever
def refUpto (k : Nat) (ls : List (List UInt8)) : List Int := ((List.range k).filter fun i => refT (ls.getD i [])).map fun i : Nat => (i : Int)
def refusedF (rooms : List Int) (ds : List DeedD) : List Int := refUpto (runLinesF rooms ds).1.length (runLinesF rooms ds).1
theorem refUpto_succ {k : Nat} {ls : List (List UInt8)} {l : List UInt8} (h : ls[k]? = some l) : refUpto (k + 1) ls = refUpto k ls ++ (if refT l then [(k : Int)] else []) := by
  unfold refUpto
  rw [List.range_succ, List.filter_append, List.map_append]
  cases he : refT l <;> simp [h, he]
theorem refUpto_len (k : Nat) (ls : List (List UInt8)) : (refUpto k ls).length ≤ k := by
  unfold refUpto
  rw [List.length_map]
  exact Nat.le_trans (List.length_filter_le _ _) (by simp)
theorem refT_true {l : List UInt8} (h : refT l = true) :
    (l == [102, 117, 108, 108]) = true ∨ ((l == [102, 117, 108, 108]) = false ∧ (l == [101, 109, 112, 116, 121]) = true) ∨ ((l == [102, 117, 108, 108]) = false ∧ (l == [101, 109, 112, 116, 121]) = false ∧ (l == [101, 110, 100, 101, 100]) = true) ∨
    ((l == [102, 117, 108, 108]) = false ∧ (l == [101, 109, 112, 116, 121]) = false ∧ (l == [101, 110, 100, 101, 100]) = false ∧ (l == [110, 101, 118, 101, 114]) = true) := by
  unfold refT tFull tEmpty tEnded tNever at h
  revert h
  cases (l == [102, 117, 108, 108]) <;> cases (l == [101, 109, 112, 116, 121]) <;> cases (l == [101, 110, 100, 101, 100]) <;> cases (l == [110, 101, 118, 101, 114]) <;> simp
theorem refT_false {l : List UInt8} (h : refT l = false) : (l == [102, 117, 108, 108]) = false ∧ (l == [101, 109, 112, 116, 121]) = false ∧ (l == [101, 110, 100, 101, 100]) = false ∧ (l == [110, 101, 118, 101, 114]) = false := by
  unfold refT tFull tEmpty tEnded tNever at h
  revert h
  cases (l == [102, 117, 108, 108]) <;> cases (l == [101, 109, 112, 116, 121]) <;> cases (l == [101, 110, 100, 101, 100]) <;> cases (l == [110, 101, 118, 101, 114]) <;> simp
theorem runLinesF_len (rooms : List Int) (ds : List DeedD) : (runLinesF rooms ds).1.length ≤ 60 := by
  unfold runLinesF
  cases hd : deedsB rooms ds with
  | false => simp
  | true =>
    simp only [if_true]
    rw [(runF_len rooms ds).2]
    exact (deedsB_of hd).2.2.1
set_option maxHeartbeats 4000000 in
theorem spec_RefusedDeeds (lo hi n c lo2 hi2 m c2 : Nat) (A A2 : Option Addr) (rooms : List Int) (ds : List DeedD) (w : World) (h : Slc w lo hi 1 A n c (ints rooms)) (h2 : Slc w lo2 hi2 3 A2 m c2 (deeds ds)) (hn : n ≤ 1048576) (hm : m ≤ 1048576) :
    Calls Tryd.prog 35 #[.slice A n c, .slice A2 m c2] w (NewV 3 1 w (ints (refusedF rooms ds))) := by
  obtain ⟨i0, hi0, hz0, hz1, hz2⟩ := info_parts info_int
  have HI := Lib.hid (And.intro hi0 (And.intro hz0 (And.intro hz1 hz2)))
  clear hi0 hz0 hz1 hz2
  have ha := h.alloc (.cells #[] 3)
  have ha2 := h2.alloc (.cells #[] 3)
  have b0 := below_al (Below.refl w.heap.size w) (.cells #[] 3)
  have k0 : (w.alloc (.cells #[] 3)).heap[w.heap.size]? = some (.cells #[] 3) := heap_alloc_new _ _
  have HK0 := Lib.hid (And.intro b0 k0)
  have HQ := Lib.hid (show refusedF rooms ds = refUpto (runLinesF rooms ds).1.length (runLinesF rooms ds).1 from rfl)
  have hL60 := runLinesF_len rooms ds
  clear b0 k0
  go_enter Tryd.func35, Tryd.ntmps35
  go_wp2_with fail
  refine (spec_RunLines _ _ _ _ _ _ _ _ _ _ rooms ds _ ha ha2 hn hm).mono ?_
  rintro e w2 ⟨AL, nL, cL, rfl, o, b1⟩
  generalize (runLinesF rooms ds).1 = LL at *
  generalize (runLinesF rooms ds).2 = tt at *
  have hnL := o.slc.txtLen
  have hnL' : nL ≤ 60 := by omega
  have hb := below_step HK0.out.1 b1
  obtain ⟨k1, z1⟩ := blk_below b1 HK0.out.2
  have HS := Lib.hid (And.intro o.slc (And.intro hb (And.intro k1 hnL)))
  clear o hb k1 ha ha2 b1 h h2 hnL hL60
  go_wp2_with fail
  go_loopw [5, 8] (fun v i wr => ∃ (k g cO : Nat), k ≤ nL ∧ i = .int .i64 k ∧ v = .slice (some ⟨g, 0, none⟩) (refUpto k LL).length cO ∧ (g = w.heap.size ∨ w2.heap.size ≤ g) ∧ wr.ownsRow w.heap.size 3 1 (.slice (some ⟨g, 0, none⟩) (refUpto k LL).length cO) (refUpto k LL).length (ints (refUpto k LL)) ∧ (∀ b, w.heap.size < b → b < w2.heap.size → wr.heap[b]? = w2.heap[b]?) ∧ w2.heap.size ≤ wr.heap.size ∧ Below w.heap.size w wr) (fun _ i _ => nL - (intOf i).toNat)
  case atStart => exact ⟨0, w.heap.size, 0, Nat.zero_le _, rfl, rfl, .inl rfl, row_empty (Nat.le_refl _) HS.out.2.2.1, fun _ _ _ => rfl, Nat.le_refl _, HS.out.2.1⟩
  case round =>
    obtain ⟨k, g, cO, hk, rfl, rfl, hg, hown, hbl, hsz, B⟩ := hrel
    have HOW := Lib.hid (And.intro hown (And.intro hbl B))
    clear hown hbl
    by_cases hlt : k < nL
    · obtain ⟨b, off, l, rfl, h1b, h2b, h3b, hlk, hc0⟩ := HS.out.1.txtAt hlt
      have hc1 : wr.cell? ⟨b, off + k, none⟩ = some (.string ⟨l.toArray⟩) := (World.cell?_of_block (HOW.out.2.1 b (by simp at h1b; omega) h3b)).trans hc0
      have hsucc := refUpto_succ hlk
      have HL := Lib.hid hsucc
      have hlen := refUpto_len k LL
      have i0' : (0 : Int) ≤ (k : Int) := by omega
      have i1 : (k : Int) < (nL : Int) := by omega
      clear hsucc hlk hc0
      generalize hU : refUpto k LL = U at *
      clear hU
      cases hr : refT l with
      | true =>
        rw [hr] at HL
        obtain ⟨hi0, hz0, hz1, hz2⟩ := HI.out
        have HH := Lib.hid hi0
        clear hi0
        rcases refT_true hr with t1 | ⟨t1, t2⟩ | ⟨t1, t2, t3⟩ | ⟨t1, t2, t3, t4⟩
        all_goals
          clear hr
          go_wp2_with (at_builtin; refine wpList_append_lies _ rfl (.tmp 31) (.tmp 33) 22 rfl w.heap.size 3 i0 (.int .i64 0) 1 8 Tryd.underlying22 HH.out hz0 hz1 hz2 rfl (by decide) (.slice (some ⟨g, 0, none⟩) U.length cO) U.length _ rfl (row_below' HOW.out.1 (below_al (Below.refl _ _) _)) ⟨_, 0, none⟩ 1 1 [.int .i64 k] rfl rfl (cell_one_new _ _ _) (by simp [Value.oneCell']) (by decide) (by unfold maxLen; omega) (by omega) (by have := B.size; simp; omega) _ rfl ?_; intro g2 c2n w4 hown2 hgr2 hat2 hlt2; have HO2 := Lib.hid hown2; have HG2 := Lib.hid hgr2; have HAT := Lib.hid hat2; clear hown2 hgr2 hat2)
          go_roundw
          case rel =>
            have hg2 : g2 = w.heap.size ∨ w2.heap.size ≤ g2 := by
              rcases HAT.out with e | e
              · have e : g = g2 := by simpa [Value.ownBlock] using e
                omega
              · simp at e; omega
            have hgr := HG2.out
            refine ⟨k + 1, g2, c2n, by omega, by go_num, by rw [HL.out]; simp, hg2, ?_, ?_, ?_, ?_⟩
            · rw [HL.out]; simpa [ints] using HO2.out
            · intro q q1 q2
              exact (hgr.block q (by simp; omega) (by simp [Value.ownBlock]; omega)).trans ((Below.heap_alloc _ _ _ (by omega)).trans (HOW.out.2.1 q q1 q2))
            · have := hgr.size; simp at this; omega
            · exact (below_al B _).trans (row_below HOW.out.1 hgr (by have := B.size; simp; omega))
          case measure => simp [intOf]; omega
      | false =>
        rw [hr] at HL
        obtain ⟨t1, t2, t3, t4⟩ := refT_false hr
        clear hr
        go_wp2
        go_roundw
        case rel => exact ⟨k + 1, g, cO, by omega, by go_num, by rw [HL.out]; simp, hg, by rw [HL.out]; simpa using HOW.out.1, HOW.out.2.1, hsz, B⟩
        case measure => simp [intOf]; omega
    · have e : k = nL := by omega
      subst e
      go_wp2
      go_ret
      obtain ⟨A', c', e', o⟩ := ownV_of_row HOW.out.1 (by decide)
      injection e' with e1 e2 e3
      subst e1 e3
      rw [HQ.out, HS.out.2.2.2]
      exact ⟨_, _, _, rfl, o, B⟩
end Go.Proofs.YtojnnemodikpeaaDoor
