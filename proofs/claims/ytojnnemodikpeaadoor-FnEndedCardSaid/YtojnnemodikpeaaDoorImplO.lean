/-
  The program's OpenLines.
-/
import Derived.Test.YtojnnemodikpeaaDoorImplR
namespace Go.Proofs.YtojnnemodikpeaaDoor
open Go.RowKit Go.Conc
set_option linter.unusedVariables false
theorem neq_chan0 (W : World) : (binOp .neq 81 (.chan none) (.chan none)).run Tryd.prog W = .ok (.bool false) W := by
  simp [binOp, run_equal_chan und_chan]
theorem neq_chan1 (c : Nat) (W : World) : (binOp .neq 81 (.chan (some c)) (.chan none)).run Tryd.prog W = .ok (.bool true) W := by
  simp [binOp, run_equal_chan und_chan]
theorem openUpto_zero (ls : List Ln) : openUpto 0 ls = [] := rfl
set_option maxHeartbeats 8000000 in
set_option maxRecDepth 20000 in
theorem impl_OpenLines (lo hi n c lo2 hi2 m c2 : Nat) (A A2 : Option Addr) (rooms : List Int) (ds : List DeedD) (w : World) (h : Slc w lo hi 1 A n c (ints rooms)) (h2 : Slc w lo2 hi2 3 A2 m c2 (deeds ds)) (hn : n ≤ 1048576) (hm : m ≤ 1048576) (ht : TabW w) :
    Calls Tryd.prog 34 #[.slice A n c, .slice A2 m c2] w (NewV 3 1 w (ints (openLF rooms ds))) := by
  have HT := Lib.hid ht
  clear ht
  cases hd : deedsB rooms ds with
  | false =>
    have hF : openLF rooms ds = [] := by unfold openLF; rw [hd]; rfl
    rw [hF]
    go_enter Tryd.func34, Tryd.ntmps34
    go_wp2_with (go_at_call 62; refine (impl_deedsValid _ _ _ _ _ _ _ _ _ _ rooms ds _ h h2 hn hm).mono ?_; rintro e w1 ⟨rfl, b1⟩; rw [hd])
    go_ret
    exact ⟨_, 0, 0, rfl, OwnV.nil _ _ _, b1⟩
  | true =>
    obtain ⟨⟨r1, r6⟩, -, -, -⟩ := deedsB_of hd
    have hF : openLF rooms ds = openUpto (rooms.length + 1) (runF rooms ds).1 := by unfold openLF; rw [hd]; rfl
    rw [hF]
    have HD := Lib.hid hd
    obtain ⟨i0, hi0, hz0, hz1, hz2⟩ := info_parts info_int
    have HI := Lib.hid (And.intro hi0 (And.intro hz0 (And.intro hz1 hz2)))
    clear hi0 hz0 hz1 hz2 hF hd
    go_enter Tryd.func34, Tryd.ntmps34
    go_wp2_with (first
      | (go_at_call 62; refine (impl_deedsValid _ _ _ _ _ _ _ _ _ _ rooms ds _ h h2 hn hm).mono ?_; rintro e w1 ⟨rfl, b1⟩; rw [HD.out]; have h1 := h.below b1; have h21 := h2.below b1; have HT1 := Lib.hid (HT.out.below b1))
      | (go_at_call 63; refine (new_from h1 HD.out).mono ?_; rintro e w2 ⟨S, rfl, hsw, hln, b2⟩)
      | (go_at_call 64; refine (doAll_from hsw b2 hln HD.out h21 HT1.out).mono ?_; rintro e w3 ⟨AL, cL, rfl, o3, hsw3, b3⟩; have ec := blk_cell hsw3.st; have zs := blk_lt hsw3.st; have HSW := Lib.hid hsw3; have HB3 := Lib.hid b3; have hln' := Lib.hid hln; clear hsw3 b3 o3 hsw hln h1 h21 h h2))
    have z1 := b1.size
    have z2 := b2.size
    have z3 := HB3.out.size
    have hb := b1.trans (HB3.out.mono z1)
    have hcs6 : S.cs.length ≤ 6 := by have := hln'.out; omega
    rw [← hln'.out]
    go_loopw [6, 24] (fun v i wr => ∃ (k g cO : Nat), k ≤ S.cs.length + 1 ∧ i = .int .i64 k ∧ v = .slice (some ⟨g, 0, none⟩) (openUpto k (runF rooms ds).1).length cO ∧ wr.ownsRow w3.heap.size 3 1 (.slice (some ⟨g, 0, none⟩) (openUpto k (runF rooms ds).1).length cO) (openUpto k (runF rooms ds).1).length (ints (openUpto k (runF rooms ds).1)) ∧ Below w3.heap.size w3 wr) (fun _ i _ => S.cs.length + 1 - (intOf i).toNat)
    case atStart => exact ⟨0, w3.heap.size, 0, Nat.zero_le _, rfl, rfl, row_empty (Nat.le_refl _) (heap_alloc_new _ _), below_al (Below.refl _ _) _⟩
    case round =>
      obtain ⟨k, g, cO, hk, rfl, rfl, hown, B⟩ := hrel
      have HOW := Lib.hid (And.intro hown B)
      clear hown
      by_cases hlt : k < S.cs.length + 1
      · have hsw := HSW.out.below B
        have ecr := blk_cell hsw.st
        have zsr := blk_lt hsw.st
        have i0' : (0 : Int) ≤ (k : Int) := by omega
        have i1 : (k : Int) < (S.cs.length : Int) + 1 := by omega
        rcases Nat.eq_zero_or_pos k with rfl | hkp
        ·
          have eg := row_cells (j := 0) (v := .chan none) hsw.lines (by simp [Sw.lines])
          have hq := fun W => neq_chan0 W
          have HH := Lib.hid hsw
          clear hsw
          go_wp2
          go_roundw
          case rel => exact ⟨1, g, cO, by omega, by go_num, rfl, HOW.out.1, HOW.out.2⟩
          case measure => simp [intOf]
        · obtain ⟨i, hi⟩ : ∃ i, k = i + 1 := ⟨k - 1, by omega⟩
          obtain ⟨c9, hc⟩ : ∃ c9, S.cs[i]? = some c9 := ⟨_, List.getElem?_eq_getElem (by omega)⟩
          obtain ⟨l, hl⟩ : ∃ l, (runF rooms ds).1[k]? = some l := ⟨_, List.getElem?_eq_getElem (by rw [HSW.out.len]; exact hlt)⟩
          have eg := row_cells (j := k) (v := .chan (some c9)) hsw.lines (by rw [hi]; simp [Sw.lines, hc])
          have hq := fun W => neq_chan1 c9 W
          have hsucc := openUpto_succ hkp hl
          have HL := Lib.hid hsucc
          have hlen := openUpto_len k (runF rooms ds).1
          have HH := Lib.hid (And.intro hsw (And.intro hc (show (runF rooms ds).1[i + 1]? = some l by rw [← hi]; exact hl)))
          clear hsucc hsw hc hl hi
          generalize hU : openUpto k (runF rooms ds).1 = U at *
          have HU := Lib.hid hU
          clear hU
          obtain ⟨t, ht⟩ : ∃ t, t = l.ended := ⟨_, rfl⟩
          rw [← ht] at HL
          have HTE := Lib.hid ht
          clear ht
          cases t with
          | true =>
            go_wp2_with (go_at_call 70; refine (isEnded_any HH.out.1 HH.out.2.1 HH.out.2.2).mono ?_; rintro e w9 ⟨rfl, rfl⟩; rw [← HTE.out])
            go_roundw
            case rel => exact ⟨k + 1, g, cO, by omega, by go_num, by rw [HL.out]; simp, by rw [HL.out]; simpa using HOW.out.1, HOW.out.2⟩
            case measure => simp [intOf]; omega
          | false =>
            obtain ⟨hi0, hz0, hz1, hz2⟩ := HI.out
            have HHI := Lib.hid hi0
            clear hi0
            go_wp2_with (first
              | (go_at_call 70; refine (isEnded_any HH.out.1 HH.out.2.1 HH.out.2.2).mono ?_; rintro e w9 ⟨rfl, rfl⟩; rw [← HTE.out])
              | (at_builtin; refine wpList_append_lies _ rfl (.tmp 37) (.tmp 39) 22 rfl w3.heap.size 3 i0 (.int .i64 0) 1 8 Tryd.underlying22 HHI.out hz0 hz1 hz2 rfl (by decide) (.slice (some ⟨g, 0, none⟩) U.length cO) U.length _ rfl (row_below' HOW.out.1 (below_al (Below.refl _ _) _)) ⟨_, 0, none⟩ 1 1 [.int .i64 k] rfl rfl (cell_one_new _ _ _) (by simp [Value.oneCell']) (by decide) (by unfold maxLen; omega) (by omega) (by have := B.size; simp; omega) _ rfl ?_; intro g2 c2n w4 hown2 hgr2 hat2 hlt2; have HO2 := Lib.hid hown2; have HG2 := Lib.hid hgr2; have HAT := Lib.hid hat2; clear hown2 hgr2 hat2))
            go_roundw
            case rel =>
              have hgr := HG2.out
              refine ⟨k + 1, g2, c2n, by omega, by go_num, by rw [HL.out]; simp, ?_, ?_⟩
              · rw [HL.out]; simpa [ints] using HO2.out
              · exact (below_al B _).trans (row_below HOW.out.1 hgr (by have := B.size; simp; omega))
            case measure => simp [intOf]; omega
      · have e : k = S.cs.length + 1 := by omega
        subst e
        go_wp2
        go_ret
        obtain ⟨A', c', e', o⟩ := ownV_of_row HOW.out.1 (by decide)
        injection e' with e1 e2 e3
        subst e1 e3
        rw [← hln'.out]
        exact ⟨_, _, _, rfl, o.from (show w.heap.size ≤ w3.heap.size by omega), hb.trans (HOW.out.2.mono (by omega))⟩
end Go.Proofs.YtojnnemodikpeaaDoor
