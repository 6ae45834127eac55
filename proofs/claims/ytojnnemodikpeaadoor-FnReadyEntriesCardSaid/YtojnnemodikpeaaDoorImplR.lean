/-
  The program's RefusedDeeds.
-/
import Derived.Test.YtojnnemodikpeaaDoorImplL
import Derived.Test.YtojnnemodikpeaaDoorSpecR
namespace Go.Proofs.YtojnnemodikpeaaDoor
open Go.RowKit Go.Conc
set_option linter.unusedVariables false
theorem new_from {lo hi n c : Nat} {A : Option Addr} {rooms : List Int} {ds : List DeedD} {w : World} (h : Slc w lo hi 1 A n c (ints rooms)) (hd : deedsB rooms ds = true) :
    Calls Tryd.prog 63 #[.slice A n c] w fun e w' => ∃ S : Sw, e = .returned (.pointer (some ⟨S.sp, 0, none⟩)) ∧ SwOk w' w.heap.size S (openF rooms) ∧ S.cs.length = rooms.length ∧ Below w.heap.size w w' :=
  (new_any h (rooms_of hd)).mono (by rintro e w' ⟨S, rfl, a, b, cc⟩; exact ⟨S, rfl, a, b, cc⟩)
set_option maxHeartbeats 8000000 in
theorem impl_RefusedDeeds (lo hi n c lo2 hi2 m c2 : Nat) (A A2 : Option Addr) (rooms : List Int) (ds : List DeedD) (w : World) (h : Slc w lo hi 1 A n c (ints rooms)) (h2 : Slc w lo2 hi2 3 A2 m c2 (deeds ds)) (hn : n ≤ 1048576) (hm : m ≤ 1048576) (ht : TabW w) :
    Calls Tryd.prog 36 #[.slice A n c, .slice A2 m c2] w (NewV 3 1 w (ints (refusedF rooms ds))) := by
  have HT := Lib.hid ht
  clear ht
  cases hd : deedsB rooms ds with
  | false =>
    have hF : refusedF rooms ds = [] := by unfold refusedF runLinesF; rw [hd]; rfl
    rw [hF]
    go_enter Tryd.func36, Tryd.ntmps36
    go_wp2_with (go_at_call 62; refine (impl_deedsValid _ _ _ _ _ _ _ _ _ _ rooms ds _ h h2 hn hm).mono ?_; rintro e w1 ⟨rfl, b1⟩; rw [hd])
    go_ret
    exact ⟨_, 0, 0, rfl, OwnV.nil _ _ _, b1⟩
  | true =>
    have hmm := (runF_len rooms ds).2
    have h60 := (deedsB_of hd).2.2.1
    have hF : refusedF rooms ds = refUpto (runF rooms ds).2.length (runF rooms ds).2 := by unfold refusedF runLinesF; rw [hd]; rfl
    rw [hF]
    have HD := Lib.hid hd
    have hml := h2.deedLen
    obtain ⟨i0, hi0, hz0, hz1, hz2⟩ := info_parts info_int
    have HI := Lib.hid (And.intro hi0 (And.intro hz0 (And.intro hz1 hz2)))
    clear hi0 hz0 hz1 hz2 hF hd
    generalize hLL : (runF rooms ds).2 = LL at *
    have hLm : LL.length = m := by omega
    have hm60 : m ≤ 60 := by omega
    have HLM := Lib.hid (And.intro hLL hLm)
    clear hmm h60 hLL hLm hml
    go_enter Tryd.func36, Tryd.ntmps36
    go_wp2_with (first
      | (go_at_call 62; refine (impl_deedsValid _ _ _ _ _ _ _ _ _ _ rooms ds _ h h2 hn hm).mono ?_; rintro e w1 ⟨rfl, b1⟩; rw [HD.out]; have h1 := (h.below b1).alloc (.cells #[] 3); have h21 := (h2.below b1).alloc (.cells #[] 3); have HT1 := Lib.hid (HT.out.below (below_al b1 (.cells #[] 3))); have HK := Lib.hid (And.intro (heap_alloc_new w1 (.cells #[] 3)) (below_al b1 (.cells #[] 3))))
      | (go_at_call 63; refine (new_from h1 HD.out).mono ?_; rintro e w2 ⟨S, rfl, hsw, hln, b2⟩)
      | (go_at_call 64; refine (doAll_from hsw b2 hln HD.out h21 HT1.out).mono ?_; rintro e w3 ⟨AL, cL, rfl, o3, _, b3⟩))
    rw [HLM.out.1] at o3
    obtain ⟨k1, z1⟩ := blk_below b2 HK.out.1
    obtain ⟨k3, z3⟩ := blk_below b3 HK.out.1
    have zz := b1.size
    have z2 := b2.size
    simp only [World.size_alloc] at z1 z2 z3
    have hb := HK.out.2.trans (b3.mono (by simp; omega))
    have HS := Lib.hid (And.intro o3.slc (And.intro hb k3))
    clear o3 k1 k3 h1 h21 b3 hsw hln h h2 hn hm
    go_wp2_with fail
    go_loopw [5, 18] (fun v i wr => ∃ (k g cO : Nat), k ≤ m ∧ i = .int .i64 k ∧ v = .slice (some ⟨g, 0, none⟩) (refUpto k LL).length cO ∧ (g = w1.heap.size ∨ w3.heap.size ≤ g) ∧ wr.ownsRow w1.heap.size 3 1 (.slice (some ⟨g, 0, none⟩) (refUpto k LL).length cO) (refUpto k LL).length (ints (refUpto k LL)) ∧ (∀ b, w1.heap.size < b → b < w3.heap.size → wr.heap[b]? = w3.heap[b]?) ∧ w3.heap.size ≤ wr.heap.size ∧ Below w.heap.size w wr) (fun _ i _ => m - (intOf i).toNat)
    case atStart => exact ⟨0, w1.heap.size, 0, Nat.zero_le _, rfl, rfl, .inl rfl, row_empty (Nat.le_refl _) HS.out.2.2, fun _ _ _ => rfl, Nat.le_refl _, HS.out.2.1⟩
    case round =>
      obtain ⟨k, g, cO, hk, rfl, rfl, hg, hown, hbl, hsz, B⟩ := hrel
      have HOW := Lib.hid (And.intro hown (And.intro hbl B))
      clear hown hbl
      by_cases hlt : k < m
      · obtain ⟨b, off, l, rfl, h1b, h2b, h3b, hlk, hc0⟩ := HS.out.1.txtAt hlt
        have hc1 : wr.cell? ⟨b, off + k, none⟩ = some (.string ⟨l.toArray⟩) := (World.cell?_of_block (HOW.out.2.1 b (by omega) h3b)).trans hc0
        have hsucc := refUpto_succ hlk
        have HL := Lib.hid hsucc
        have hlen := refUpto_len k LL
        have i0' : (0 : Int) ≤ (k : Int) := by omega
        have i1 : (k : Int) < (m : Int) := by omega
        clear hsucc hlk hc0
        generalize hU : refUpto k LL = U at *
        clear hU
        cases hr : refT l with
        | true =>
          rw [hr] at HL
          obtain ⟨hi0, hz0, hz1, hz2⟩ := HI.out
          have HH := Lib.hid hi0
          clear hi0
          rcases refT_true hr with t1 | ⟨t1, t2⟩ | ⟨t1, t2, t3⟩ | ⟨t1, t2, t3, t4⟩
          all_goals
            clear hr
            go_wp2_with (at_builtin; refine wpList_append_lies _ rfl (.tmp 29) (.tmp 31) 22 rfl w1.heap.size 3 i0 (.int .i64 0) 1 8 Tryd.underlying22 HH.out hz0 hz1 hz2 rfl (by decide) (.slice (some ⟨g, 0, none⟩) U.length cO) U.length _ rfl (row_below' HOW.out.1 (below_al (Below.refl _ _) _)) ⟨_, 0, none⟩ 1 1 [.int .i64 k] rfl rfl (cell_one_new _ _ _) (by simp [Value.oneCell']) (by decide) (by unfold maxLen; omega) (by omega) (by have := B.size; simp; omega) _ rfl ?_; intro g2 c2n w4 hown2 hgr2 hat2 hlt2; have HO2 := Lib.hid hown2; have HG2 := Lib.hid hgr2; have HAT := Lib.hid hat2; clear hown2 hgr2 hat2)
            go_roundw
            case rel =>
              have hg2 : g2 = w1.heap.size ∨ w3.heap.size ≤ g2 := by
                rcases HAT.out with e | e
                · have e : g = g2 := by simpa [Value.ownBlock] using e
                  omega
                · simp at e; omega
              have hgr := HG2.out
              refine ⟨k + 1, g2, c2n, by omega, by go_num, by rw [HL.out]; simp, hg2, ?_, ?_, ?_, ?_⟩
              · rw [HL.out]; simpa [ints] using HO2.out
              · intro q q1 q2
                exact (hgr.block q (by simp; omega) (by simp [Value.ownBlock]; omega)).trans ((Below.heap_alloc _ _ _ (by omega)).trans (HOW.out.2.1 q q1 q2))
              · have := hgr.size; simp at this; omega
              · refine (below_al B _).trans ((row_below HOW.out.1 hgr (by have := B.size; simp; omega)).mono zz)
            case measure => simp [intOf]; omega
        | false =>
          rw [hr] at HL
          obtain ⟨t1, t2, t3, t4⟩ := refT_false hr
          clear hr
          go_wp2
          go_roundw
          case rel => exact ⟨k + 1, g, cO, by omega, by go_num, by rw [HL.out]; simp, hg, by rw [HL.out]; simpa using HOW.out.1, HOW.out.2.1, hsz, B⟩
          case measure => simp [intOf]; omega
      · have e : k = m := by omega
        subst e
        go_wp2
        go_ret
        obtain ⟨A', c', e', o⟩ := ownV_of_row HOW.out.1 (by decide)
        injection e' with e1 e2 e3
        subst e1 e3
        rw [HLM.out.2]
        exact ⟨_, _, _, rfl, o.from zz, B⟩
end Go.Proofs.YtojnnemodikpeaaDoor
