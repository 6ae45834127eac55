/-
  The reference's OpenLines.
-/
import Derived.Test.YtojnnemodikpeaaDoorSpecL
namespace Go.Proofs.YtojnnemodikpeaaDoor
open Go.RowKit
set_option linter.unusedVariables false
def openUpto (k : Nat) (ls : List Ln) : List Int := ((List.range k).filter fun i => decide (1 ≤ i) && !(ls.getD i ⟨0, [], false, []⟩).ended).map fun i : Nat => (i : Int)
def openLF (rooms : List Int) (ds : List DeedD) : List Int := if deedsB rooms ds then openUpto (rooms.length + 1) (runF rooms ds).1 else []
theorem openUpto_one (ls : List Ln) : openUpto 1 ls = [] := rfl
theorem openUpto_succ {k : Nat} {ls : List Ln} {l : Ln} (hk : 1 ≤ k) (h : ls[k]? = some l) : openUpto (k + 1) ls = openUpto k ls ++ (if l.ended then [] else [(k : Int)]) := by
  unfold openUpto
  rw [List.range_succ, List.filter_append, List.map_append]
  cases he : l.ended <;> simp [h, he, hk]
theorem openUpto_len (k : Nat) (ls : List Ln) : (openUpto k ls).length ≤ k := by
  unfold openUpto
  rw [List.length_map]
  exact Nat.le_trans (List.length_filter_le _ _) (by simp)
set_option maxHeartbeats 2000000 in
theorem spec_OpenLines (lo hi n c lo2 hi2 m c2 : Nat) (A A2 : Option Addr) (rooms : List Int) (ds : List DeedD) (w : World) (h : Slc w lo hi 1 A n c (ints rooms)) (h2 : Slc w lo2 hi2 3 A2 m c2 (deeds ds)) (hn : n ≤ 1048576) (hm : m ≤ 1048576) :
    Calls Tryd.prog 33 #[.slice A n c, .slice A2 m c2] w (NewV 3 1 w (ints (openLF rooms ds))) := by
  cases hd : deedsB rooms ds with
  | false =>
    have hF : openLF rooms ds = [] := by unfold openLF; rw [hd]; rfl
    rw [hF]
    have ha := h.alloc (.cells #[] 3)
    have ha2 := h2.alloc (.cells #[] 3)
    have b0 := below_al (Below.refl w.heap.size w) (.cells #[] 3)
    go_enter Tryd.func33, Tryd.ntmps33
    go_wp2_with (go_at_call 58; refine (spec_l1Valid _ _ _ _ _ _ _ _ _ _ rooms ds _ ha ha2 hn hm).mono ?_; rintro e w1 ⟨rfl, b1⟩; rw [hd])
    go_ret
    exact ⟨_, 0, 0, rfl, OwnV.empty _ _ _ _, below_step b0 b1⟩
  | true =>
    obtain ⟨⟨r1, r6⟩, -, -, -⟩ := deedsB_of hd
    have hF : openLF rooms ds = openUpto (rooms.length + 1) (runF rooms ds).1 := by unfold openLF; rw [hd]; rfl
    rw [hF]
    have HF := Lib.hid hF
    clear hF
    obtain ⟨N, hN⟩ : ∃ N, N = rooms.length + 1 := ⟨_, rfl⟩
    rw [← hN]
    have hN7 : N ≤ 7 := by omega
    have hN2 : 2 ≤ N := by omega
    have HN := Lib.hid hN
    clear hN r1 r6
    obtain ⟨i0, hi0, hz0, hz1, hz2⟩ := info_parts info_int
    have HI := Lib.hid (And.intro hi0 (And.intro hz0 (And.intro hz1 hz2)))
    clear hi0 hz0 hz1 hz2
    have ha := h.alloc (.cells #[] 3)
    have ha2 := h2.alloc (.cells #[] 3)
    have b0 := below_al (Below.refl w.heap.size w) (.cells #[] 3)
    have k0 : (w.alloc (.cells #[] 3)).heap[w.heap.size]? = some (.cells #[] 3) := heap_alloc_new _ _
    have HK0 := Lib.hid (And.intro b0 k0)
    clear b0 k0
    go_enter Tryd.func33, Tryd.ntmps33
    go_wp2_with (go_at_call 58; refine (spec_l1Valid _ _ _ _ _ _ _ _ _ _ rooms ds _ ha ha2 hn hm).mono ?_; rintro e w1 ⟨rfl, b1⟩; rw [hd])
    refine (l1Run_any _ _ _ _ _ _ _ _ _ _ rooms ds _ (ha.below b1) (ha2.below b1) hd).mono ?_
    rintro e w2 ⟨gl, cl, go, co, vs, rfl, St⟩
    rw [← HN.out] at St ⊢
    have hb := below_step HK0.out.1 (below_step b1 St.B)
    obtain ⟨k1, z1⟩ := blk_below b1 HK0.out.2
    obtain ⟨k2, z2⟩ := blk_below St.B k1
    have hgl := (row_blk St.lines).1
    have HST := Lib.hid (And.intro St (And.intro hb k2))
    clear St hb k1 k2 ha ha2 b1 h h2
    go_wp2_with fail
    go_loopw [5, 8] (fun v i wr => ∃ (k g cO : Nat), 1 ≤ k ∧ k ≤ N ∧ i = .int .i64 k ∧ v = .slice (some ⟨g, 0, none⟩) (openUpto k (runF rooms ds).1).length cO ∧ g ≠ gl ∧ wr.ownsRow w.heap.size 3 1 (.slice (some ⟨g, 0, none⟩) (openUpto k (runF rooms ds).1).length cO) (openUpto k (runF rooms ds).1).length (ints (openUpto k (runF rooms ds).1)) ∧ wr.heap[gl]? = w2.heap[gl]? ∧ w2.heap.size ≤ wr.heap.size ∧ Below w.heap.size w wr) (fun _ i _ => N - (intOf i).toNat)
    case atStart => exact ⟨1, w.heap.size, 0, Nat.le_refl _, by omega, rfl, rfl, by omega, row_empty (Nat.le_refl _) HST.out.2.2, rfl, Nat.le_refl _, HST.out.2.1⟩
    case round =>
      obtain ⟨k, g, cO, hk1, hk, rfl, rfl, hg, hown, hbl, hsz, B⟩ := hrel
      have HOW := Lib.hid (And.intro hown (And.intro hbl B))
      clear hown hbl
      by_cases hlt : k < N
      · obtain ⟨St, -, -⟩ := HST.out
        obtain ⟨v, hv⟩ : ∃ v, vs[k]? = some v := ⟨_, List.getElem?_eq_getElem (by rw [lns_len St.lines]; exact hlt)⟩
        obtain ⟨l, hl⟩ : ∃ l, (runF rooms ds).1[k]? = some l := ⟨_, List.getElem?_eq_getElem (by rw [St.len]; exact hlt)⟩
        have ce := (World.cell?_of_block (a := ⟨gl, k * 4 + 2, none⟩) HOW.out.2.1).trans (row_cells St.lines (lnCells_get hv).2.2.1)
        have hen := (St.lns k v l hv hl).1.ended
        rw [hen] at ce
        have hsucc := openUpto_succ hk1 hl
        obtain ⟨_, cs, kgl, _⟩ := row_blk St.lines
        have zgl := blk_lt kgl
        have HL := Lib.hid hsucc
        have hlen := openUpto_len k (runF rooms ds).1
        clear hsucc hv hl hen kgl St
        generalize hU : openUpto k (runF rooms ds).1 = U at *
        have HU := Lib.hid hU
        clear hU
        obtain ⟨t, ht⟩ : ∃ t, t = l.ended := ⟨_, rfl⟩
        rw [← ht] at ce HL
        clear ht
        cases t with
        | true =>
          go_wp2
          go_roundw
          case rel => exact ⟨k + 1, g, cO, by omega, by omega, by go_num, by rw [HL.out]; simp, hg, by rw [HL.out]; simpa using HOW.out.1, HOW.out.2.1, hsz, B⟩
          case measure => simp [intOf]; omega
        | false =>
          obtain ⟨hi0, hz0, hz1, hz2⟩ := HI.out
          have HH := Lib.hid hi0
          clear hi0
          go_wp2_with (at_builtin; refine wpList_append_lies _ rfl (.tmp 33) (.tmp 35) 22 rfl w.heap.size 3 i0 (.int .i64 0) 1 8 Tryd.underlying22 HH.out hz0 hz1 hz2 rfl (by decide) (.slice (some ⟨g, 0, none⟩) U.length cO) U.length _ rfl (row_below' HOW.out.1 (below_al (Below.refl _ _) _)) ⟨_, 0, none⟩ 1 1 [.int .i64 k] rfl rfl (cell_one_new _ _ _) (by simp [Value.oneCell']) (by decide) (by unfold maxLen; omega) (by omega) (by have := B.size; simp; omega) _ rfl ?_; intro g2 c2n w4 hown2 hgr2 hat2 hlt2; have HO2 := Lib.hid hown2; have HG2 := Lib.hid hgr2; have HAT := Lib.hid hat2; clear hown2 hgr2 hat2)
          go_roundw
          case rel =>
            have hg2 : g2 ≠ gl := by
              rcases HAT.out with e | e
              · have e : g = g2 := by simpa [Value.ownBlock] using e
                omega
              · simp at e; omega
            have hgr := HG2.out
            refine ⟨k + 1, g2, c2n, by omega, by omega, by go_num, by rw [HL.out]; simp, hg2, ?_, ?_, ?_, ?_⟩
            · rw [HL.out]; simpa [ints] using HO2.out
            · exact (hgr.block gl (by simp; omega) (by simp [Value.ownBlock]; omega)).trans ((Below.heap_alloc _ _ _ (by omega)).trans HOW.out.2.1)
            · have := hgr.size; simp at this; omega
            · exact (below_al B _).trans (row_below HOW.out.1 hgr (by have := B.size; simp; omega))
          case measure => simp [intOf]; omega
      · have e : k = N := by omega
        subst e
        go_wp2
        go_ret
        obtain ⟨A', c', e', o⟩ := ownV_of_row HOW.out.1 (by decide)
        injection e' with e1 e2 e3
        subst e1 e3
        exact ⟨_, _, _, rfl, o, B⟩
end Go.Proofs.YtojnnemodikpeaaDoor
