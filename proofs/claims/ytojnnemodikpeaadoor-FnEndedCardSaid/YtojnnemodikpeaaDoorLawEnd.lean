/-
  The walk of the law FnEnded.
-/
import Derived.Test.YtojnnemodikpeaaDoorCbT
import Derived.Test.YtojnnemodikpeaaDoorApartM
import Derived.Test.YtojnnemodikpeaaDoorDrawN
import Derived.Test.YtojnnemodikpeaaDoorLens
import Derived.Test.YtojnnemodikpeaaDoorSpecR
import Derived.Test.YtojnnemodikpeaaDoorSpecO
import Derived.Test.YtojnnemodikpeaaDoorImplR
import Derived.Test.YtojnnemodikpeaaDoorImplO
namespace Go.Proofs.YtojnnemodikpeaaDoor
open Go.RowKit Go.Conc
set_option linter.unusedVariables false
set_option maxRecDepth 20000 in
set_option maxHeartbeats 8000000 in
theorem walk_FnEnded (A : Option Addr) (n c : Nat) (w : World) (h : Code w A n c) (ht : TabW w) :
    Calls Tryd.prog 9 #[.slice A n c] w fun e w' => e = .returned (.bool true) ∧ Below w.heap.size w w' := by
  have HT := Lib.hid ht
  have hcap := h.cap
  have hle := h.le
  unfold maxLen at hcap
  clear ht
  by_cases e0 : 1048576 < n
  · clear h
    go_enter Tryd.func9, Tryd.ntmps9
    go_wp2
    go_ret
    exact ⟨rfl, Below.refl _ _⟩
  · go_enter Tryd.func9, Tryd.ntmps9
    go_wp2_with fail
    refine (DrawOpenLines_any A n c w h).mono ?_
    rintro e w1 ⟨A1, n1, c1, rooms, A2, n2, c2, ds, rfl, h1, h2, hn1, hn2, b1⟩
    have s1 := b1.size
    have B := b1
    have HT1 := Lib.hid (HT.out.below b1)
    clear h b1
    go_wp2_with fail
    refine (impl_OpenLines _ _ _ _ _ _ _ _ _ _ rooms ds _ h1 h2 (by omega) (by omega) HT1.out).mono ?_
    rintro e w2 ⟨A3, n3, c3, rfl, h3, b2⟩
    have s2 := b2.size
    replace h1 := h1.below b2
    replace h2 := h2.below b2
    replace B := below_step B b2
    have HT2 := Lib.hid (HT1.out.below b2)
    clear b2
    go_wp2_with fail
    refine (impl_RefusedDeeds _ _ _ _ _ _ _ _ _ _ rooms ds _ h1 h2 (by omega) (by omega) HT2.out).mono ?_
    rintro e w3 ⟨A4, n4, c4, rfl, h4, b3⟩
    have s3 := b3.size
    replace h1 := h1.below b3
    replace h2 := h2.below b3
    replace h3 := h3.below b3
    replace B := below_step B b3
    have HT3 := Lib.hid (HT2.out.below b3)
    clear b3
    go_wp2_with fail
    refine (impl_RunLines _ _ _ _ _ _ _ _ _ _ rooms ds _ h1 h2 (by omega) (by omega) HT3.out).mono ?_
    rintro e w4 ⟨A5, n5, c5, rfl, h5, b4⟩
    have s4 := b4.size
    replace h1 := h1.below b4
    replace h2 := h2.below b4
    replace h3 := h3.below b4
    replace h4 := h4.below b4
    replace B := below_step B b4
    clear b4
    have ho3 := openLF_len rooms ds
    have hl3 : (openLF rooms ds).length = n3 := h3.slc.length
    have hr4 := refusedF_len rooms ds
    have hl4 : (refusedF rooms ds).length = n4 := h4.slc.length
    have hn3 : n3 ≤ 1048576 := by omega
    have hn4 : n4 ≤ 1048576 := by omega
    have hl1 := h1.length
    have hl2 := h2.deedLen
    have hl5 := h5.slc.txtLen
    have HX := Lib.hid (And.intro hl1 (And.intro hl2 (And.intro hl3 (And.intro hl4 hl5))))
    have HEQO := Lib.hid (beq_self_eq_true (openLF rooms ds))
    have HEQR := Lib.hid (beq_self_eq_true (refusedF rooms ds))
    have H3 := Lib.hid h3.slc
    have H4 := Lib.hid h4.slc
    clear hl1 hl2 hl3 hl4 hl5 ho3 hr4 h3 h4
    cases hd : deedsB rooms ds with
    | false =>
      have hr : runLinesF rooms ds = ([], false) := by unfold runLinesF; rw [hd]; rfl
      have hrf : refusedF rooms ds = [] := by unfold refusedF; rw [hr]; rfl
      have hof : openLF rooms ds = [] := by unfold openLF; rw [hd]; rfl
      have hr2 : (runLinesF rooms ds).2 = false := by rw [hr]
      have hn30 : n3 = 0 := by have := HX.out.2.2.1; rw [hof] at this; exact this.symm
      have hn40 : n4 = 0 := by have := HX.out.2.2.2.1; rw [hrf] at this; exact this.symm
      subst hn30 hn40
      rw [hr2]
      clear hd hr hrf hr2 h5 hof
      obtain ⟨wx, hwx⟩ : ∃ wx : World, wx = w4 := ⟨_, rfl⟩
      have HWX := Lib.hid hwx
      clear hwx
      have once : True := trivial
      go_wp2_with (first
        | (go_at_call 33; clear once; refine (spec_OpenLines _ _ _ _ _ _ _ _ _ _ rooms ds _ h1 h2 (by omega) (by omega)).mono ?_; rintro e w5 ⟨A6, n6, c6, rfl, h6, b5⟩; have hn6 : n6 ≤ 1048576 := (by have := openLF_len rooms ds; have := h6.slc.length; omega); have s5 := b5.size)
        | (go_at_call 32; refine (cbSame_u (H3.out.below b5) h6.slc (by omega) (by omega)).mono ?_; rintro e w6 ⟨rfl, b6⟩; rw [HEQO.out]; have h1a := (h1.below b5).below b6; have h2a := (h2.below b5).below b6; have twice : True := trivial)
        | (go_at_call 35; refine (spec_RefusedDeeds _ _ _ _ _ _ _ _ _ _ rooms ds _ h1a h2a (by omega) (by omega)).mono ?_; rintro e w7 ⟨A7, n7, c7, rfl, h7, b7⟩; have hn7 : n7 ≤ 1048576 := (by have := refusedF_len rooms ds; have := h7.slc.length; omega); have s7 := b7.size; clear h6)
        | (go_at_call 32; clear twice; refine (cbSame_u (((H4.out.below b5).below b6).below b7) h7.slc (by omega) (by omega)).mono ?_; rintro e w8 ⟨rfl, b8⟩; rw [HEQR.out]))
      have h1b := (h1a.below b7).below b8
      have h2b := (h2a.below b7).below b8
      have H3b := Lib.hid ((((H3.out.below b5).below b6).below b7).below b8)
      have H4b := Lib.hid ((((H4.out.below b5).below b6).below b7).below b8)
      have B8 := below_step (below_step (below_step (below_step B b5) b6) b7) b8
      clear h1 h2 h1a h2a b5 b6 b7 b8 h7
      have once : True := trivial
      go_wp2_with (first
        | (go_at_call 33; clear once; refine (spec_OpenLines _ _ _ _ _ _ _ _ _ _ rooms ds _ h1b h2b (by omega) (by omega)).mono ?_; rintro e w9 ⟨A6, n6, c6, rfl, h6, b5⟩; have hn6 : n6 ≤ 1048576 := (by have := openLF_len rooms ds; have := h6.slc.length; omega); have s5 := b5.size)
        | (go_at_call 32; refine (cbSame_u (H3b.out.below b5) h6.slc (by omega) (by omega)).mono ?_; rintro e w10 ⟨rfl, b6⟩; rw [HEQO.out]; have h1a := (h1b.below b5).below b6; have h2a := (h2b.below b5).below b6; have twice : True := trivial)
        | (go_at_call 35; refine (spec_RefusedDeeds _ _ _ _ _ _ _ _ _ _ rooms ds _ h1a h2a (by omega) (by omega)).mono ?_; rintro e w11 ⟨A7, n7, c7, rfl, h7, b7⟩; have hn7 : n7 ≤ 1048576 := (by have := refusedF_len rooms ds; have := h7.slc.length; omega); have s7 := b7.size; clear h6)
        | (go_at_call 32; clear twice; refine (cbSame_u (((H4b.out.below b5).below b6).below b7) h7.slc (by omega) (by omega)).mono ?_; rintro e w12 ⟨rfl, b8⟩; rw [HEQR.out]))
      go_ret
      exact ⟨rfl, below_step (below_step (below_step (below_step B8 b5) b6) b7) b8⟩
    | true =>
      have hr2 : (runLinesF rooms ds).2 = true := by unfold runLinesF; rw [hd]; rfl
      have hA : (runLinesF rooms ds).1 = (runF rooms ds).2 := by unfold runLinesF; rw [hd]; rfl
      rw [hr2]
      have hn52 : n5 = n2 := by have := HX.out.2.2.2.2; rw [hA, (runF_len rooms ds).2] at this; have := HX.out.2.1; omega
      have h60 : n2 ≤ 60 := by have := (deedsB_of hd).2.2.1; have := HX.out.2.1; omega
      have h6' : n1 ≤ 6 := by have := (deedsB_of hd).1.2; have := HX.out.1; omega
      subst hn52
      have H5 := Lib.hid h5.slc
      have HA := Lib.hid hA
      have HD := Lib.hid hd
      clear hr2 h5 hA hd
      have once : True := trivial
      go_wp2_with (first
        | (go_at_call 33; clear once; refine (spec_OpenLines _ _ _ _ _ _ _ _ _ _ rooms ds _ h1 h2 (by omega) (by omega)).mono ?_; rintro e w5 ⟨A6, n6, c6, rfl, h6, b5⟩; have hn6 : n6 ≤ 1048576 := (by have := openLF_len rooms ds; have := h6.slc.length; omega); have s5 := b5.size)
        | (go_at_call 32; refine (cbSame_u (H3.out.below b5) h6.slc (by omega) (by omega)).mono ?_; rintro e w6 ⟨rfl, b6⟩; rw [HEQO.out]; have h1a := (h1.below b5).below b6; have h2a := (h2.below b5).below b6; have twice : True := trivial)
        | (go_at_call 35; refine (spec_RefusedDeeds _ _ _ _ _ _ _ _ _ _ rooms ds _ h1a h2a (by omega) (by omega)).mono ?_; rintro e w7 ⟨A7, n7, c7, rfl, h7, b7⟩; have hn7 : n7 ≤ 1048576 := (by have := refusedF_len rooms ds; have := h7.slc.length; omega); have s7 := b7.size; clear h6)
        | (go_at_call 32; clear twice; refine (cbSame_u (((H4.out.below b5).below b6).below b7) h7.slc (by omega) (by omega)).mono ?_; rintro e w8 ⟨rfl, b8⟩; rw [HEQR.out]))
      have HS := Lib.hid (show Slc w8 w.heap.size w1.heap.size 1 A1 n1 c1 (ints rooms) ∧ Slc w8 w.heap.size w1.heap.size 3 A2 n5 c2 (deeds ds) ∧ Slc w8 w1.heap.size w2.heap.size 1 A3 n3 c3 (ints (openLF rooms ds)) ∧ Slc w8 w2.heap.size w3.heap.size 1 A4 n4 c4 (ints (refusedF rooms ds)) ∧ Slc w8 w3.heap.size w4.heap.size 1 A5 n5 c5 (txts (runLinesF rooms ds).1) from
        ⟨(h1a.below b7).below b8, (h2a.below b7).below b8, (((H3.out.below b5).below b6).below b7).below b8, (((H4.out.below b5).below b6).below b7).below b8, (((H5.out.below b5).below b6).below b7).below b8⟩)
      have HB := Lib.hid (below_step (below_step (below_step (below_step B b5) b6) b7) b8)
      have hoE : openLF rooms ds = idxs (fun i => decide (1 ≤ i) && !(lnAt rooms ds ds.length i).ended) (rooms.length + 1) := by
        unfold openLF
        rw [HD.out]
        simp only [if_true]
        rw [openUpto_idxs]
        simp only [lnAt_end]
      have hrE : refusedF rooms ds = idxs (fun i => refT ((runLinesF rooms ds).1.getD i [])) ds.length := by
        unfold refusedF
        rw [refUpto_idxs, HA.out, (runF_len rooms ds).2]
      have HOE := Lib.hid hoE
      have HRE := Lib.hid hrE
      clear h1 h2 h1a h2a b5 b6 b7 b8 B h7 hoE hrE H3 H4 H5
      go_loop [9, 10] (fun p i => ∃ (l k : Nat), 1 ≤ l ∧ l ≤ n1 + 1 ∧ i = .int .i64 l ∧ p = .int .i64 k ∧ k = (idxs (fun i => decide (1 ≤ i) && !(lnAt rooms ds ds.length i).ended) l).length) (fun _ i => n1 + 1 - (intOf i).toNat)
      case atStart => exact ⟨1, 0, Nat.le_refl _, by omega, rfl, rfl, rfl⟩
      case round =>
        obtain ⟨l, k, hl1, hl, rfl, rfl, hk⟩ := hrel
        have HK := Lib.hid hk
        have hkl : k ≤ l := by rw [hk]; exact idxs_len _ _
        clear hk
        by_cases hlt : l < n1 + 1
        · have hln : l ≤ n1 := by omega
          go_wp2_with fail
          go_loop [11, 12] (fun t i => ∃ j : Nat, j ≤ n5 ∧ i = .int .i64 j ∧ t = .bool (lnAt rooms ds j l).ended) (fun _ i => n5 - (intOf i).toNat)
          case atStart => exact ⟨0, Nat.zero_le _, rfl, by rw [lnAt_zero]⟩
          case round =>
            obtain ⟨j, hj, rfl, rfl⟩ := hrel
            by_cases hjl : j < n5
            · obtain ⟨b, off, d, hA', _, _, h3, hdk, hv0, hv1, hv2⟩ := HS.out.2.1.deedAt hjl
              subst hA'
              obtain ⟨b', off', t, hA', _, _, h3', htk, hvt⟩ := HS.out.2.2.2.2.txtAt hjl
              subst hA'
              have j0' : (0 : Int) ≤ (j : Int) := by omega
              have j1 : (j : Int) < (n5 : Int) := by omega
              by_cases hdl : d.a = (l : Int)
              · have hdq : (d.a != (l : Int)) = false := by simp [hdl]
                have htl := told_at HD.out hdk (by rw [← HA.out]; exact htk)
                rw [show d.a.toNat = l by omega] at htl
                have HTL := Lib.hid htl
                clear htl hdk htk hdl
                cases he : (lnAt rooms ds j l).ended with
                | true =>
                  obtain ⟨q1, q2, q3, q4⟩ := HTL.out.end1 he
                  have q1' : (t == [112, 117, 116]) = false := q1
                  have q2' : (t == [101, 110, 100]) = false := q2
                  have q3' : (t == [101, 109, 112, 116, 121]) = false := q3
                  have q4' : (t == [102, 117, 108, 108]) = false := q4
                  have HE := Lib.hid (And.intro he q2)
                  clear q1 q2 q3 q4 he
                  go_wp2
                  go_round
                  case rel => exact ⟨j + 1, by omega, by go_num, by rw [HTL.out.ended, HE.out.1]; rfl⟩
                  case measure => simp [intOf]; omega
                | false =>
                  have q5' : (t == [101, 110, 100, 101, 100]) = false := HTL.out.end0 he
                  have HE := Lib.hid he
                  clear he
                  obtain ⟨z, hz⟩ : ∃ z, z = (t == tEnd) := ⟨_, rfl⟩
                  have q6' : (t == [101, 110, 100]) = z := hz.symm
                  have HZ := Lib.hid hz
                  clear hz
                  cases z <;> go_wp2
                  all_goals
                    go_round
                    case rel => exact ⟨j + 1, by omega, by go_num, by rw [HTL.out.ended, HE.out, ← HZ.out]; rfl⟩
                    case measure => simp [intOf]; omega
              · have hdq : (d.a != (l : Int)) = true := by simpa using hdl
                have hp := ((deedsB_of HD.out).2.2.2 d (List.mem_of_getElem? hdk)).2.1
                have HO := Lib.hid (lnAt_other (rooms := rooms) hdk (i := l) (by omega))
                clear hdl hdk htk
                go_wp2
                go_round
                case rel => exact ⟨j + 1, by omega, by go_num, by rw [HO.out]⟩
                case measure => simp [intOf]; omega
            · have ej : j = n5 := by omega
              have hjd : j = ds.length := by have := HX.out.2.1; omega
              have HJD := Lib.hid hjd
              clear ej hjd
              have hln' : l < rooms.length + 1 := by have := HX.out.1; omega
              have HSU := Lib.hid (idxs_succ (fun i => decide (1 ≤ i) && !(lnAt rooms ds ds.length i).ended) l)
              have hd1 : decide (1 ≤ l) = true := by simpa using hl1
              cases he : (lnAt rooms ds j l).ended with
              | true =>
                have HE := Lib.hid (show (lnAt rooms ds ds.length l).ended = true by rw [← HJD.out]; exact he)
                clear he
                go_wp2
                go_round
                case rel => exact ⟨l + 1, k, by omega, by omega, by go_num, rfl, by rw [HSU.out, HE.out]; simp [HK.out]⟩
                case measure => simp [intOf]; omega
              | false =>
                have he' : (lnAt rooms ds ds.length l).ended = false := by rw [← HJD.out]; exact he
                have HE := Lib.hid he'
                have hhit := idxs_hit (p := fun i => decide (1 ≤ i) && !(lnAt rooms ds ds.length i).ended) hln' (by simp only [hd1, he']; rfl)
                rw [← HOE.out, ← HK.out] at hhit
                have hkl3 : k < n3 := by have := (List.getElem?_eq_some_iff.1 hhit).1; have := HX.out.2.2.1; omega
                obtain ⟨b7, off7, v7, e7, _, _, z7, hv7, ec7⟩ := HS.out.2.2.1.cellAt hkl3
                subst e7
                have hv7' : v7 = (l : Int) := by rw [hhit] at hv7; injection hv7 with hv7; exact hv7.symm
                subst hv7'
                have k0' : (0 : Int) ≤ (k : Int) := by omega
                have k1' : (k : Int) < (n3 : Int) := by omega
                clear hhit hv7 he he'
                go_wp2
                go_round
                case rel => exact ⟨l + 1, k + 1, by omega, by omega, by go_num, by go_num, by rw [HSU.out, HE.out, decide_eq_true hl1]; simp [HK.out]⟩
                case measure => simp [intOf]; omega
        · have el : l = n1 + 1 := by omega
          have hk3 : k = n3 := by have := HX.out.2.2.1; rw [HOE.out, HX.out.1, ← el, ← HK.out] at this; exact this
          have HK3 := Lib.hid hk3
          have HEL := Lib.hid el
          clear hk3 el
          go_wp2_with fail
          go_loopw [13] (fun i wr => ∃ q : Nat, q ≤ n4 ∧ i = .int .i64 q ∧ ∃ m, wr = w8.drewN m) (fun i _ => n4 - (intOf i).toNat)
          case atStart => exact ⟨0, Nat.zero_le _, rfl, 0, rfl⟩
          case round =>
            obtain ⟨q, hq, rfl, hm⟩ := hrel
            have BQ : Below w8.heap.size w8 wr := by obtain ⟨q, rfl⟩ := hm; exact below_drewN (Below.refl _ _) q
            have HQ := Lib.hid (And.intro hm BQ)
            clear hm BQ
            by_cases hql : q < n4
            · have hrl : (refusedF rooms ds).length = n4 := HX.out.2.2.2.1
              obtain ⟨x, hx⟩ : ∃ x, (refusedF rooms ds)[q]? = some x := ⟨_, List.getElem?_eq_getElem (by omega)⟩
              obtain ⟨m, hm, rfl, hpm⟩ := idxs_lt (by rw [← HRE.out]; exact hx)
              obtain ⟨b9, off9, v9, e9, _, _, z9, hv9, ec9⟩ := (HS.out.2.2.2.1.below HQ.out.2).cellAt hql
              subst e9
              have hv9' : v9 = (m : Int) := by rw [hx] at hv9; injection hv9 with hv9; exact hv9.symm
              subst hv9'
              have hmn : m < n5 := by have := HX.out.2.1; omega
              obtain ⟨b, off, d, hA', _, _, h3, hdk, hv0, hv1, hv2⟩ := (HS.out.2.1.below HQ.out.2).deedAt hmn
              subst hA'
              obtain ⟨t, htk⟩ : ∃ t, (runF rooms ds).2[m]? = some t := ⟨_, List.getElem?_eq_getElem (by have := (runF_len rooms ds).2; omega)⟩
              have hrt : refT t = true := by
                have : refT ((runLinesF rooms ds).1.getD m []) = true := hpm
                rw [HA.out, List.getD_eq_getElem?_getD, htk] at this; exact this
              have hlk : (d.act.toList == [108, 111, 111, 107]) = false := ref_look HD.out hdk htk hrt
              have q0' : (0 : Int) ≤ (q : Int) := by omega
              have q1' : (q : Int) < (n4 : Int) := by omega
              have m0' : (0 : Int) ≤ (m : Int) := by omega
              have m1' : (m : Int) < (n5 : Int) := by omega
              by_cases hq0 : q < 1
              · have qq : decide ((0 : Int) < (q : Int)) = false := by simp; omega
                have qq1 : ¬ 0 < q := by omega
                clear hrl hx hpm hv9 hdk htk hrt hv1 hv2 hm
                go_wp2
                go_quiet (fail)
                go_wp2
                go_roundw
                case rel => exact ⟨q + 1, by omega, by go_num, by obtain ⟨q, hq⟩ := HQ.out.1; exact ⟨q + nq, by rw [hq, World.drewN_drewN]⟩⟩
                case measure => simp [intOf]; omega
              · obtain ⟨i, hqi⟩ : ∃ i, q = i + 1 := ⟨q - 1, by omega⟩
                obtain ⟨y, hy⟩ : ∃ y, (refusedF rooms ds)[i]? = some y := ⟨_, List.getElem?_eq_getElem (by omega)⟩
                have hym : y < (m : Int) := by
                  have ha := idxs_asc (fun i => refT ((runLinesF rooms ds).1.getD i [])) ds.length
                  rw [← HRE.out] at ha
                  exact asc_at ha (show i < q by omega) hy hx
                obtain ⟨b9', off9', v9', e9', _, _, _, hv9', ec9'⟩ := (HS.out.2.2.2.1.below HQ.out.2).cellAt (show i < n4 by omega)
                injection e9' with e9'
                injection e9' with e9a e9b
                subst e9a e9b
                have hv9'' : v9' = y := by rw [hy] at hv9'; injection hv9' with hv9'; exact hv9'.symm
                subst hv9''
                have hle' : decide ((m : Int) ≤ v9') = false := by simp; omega
                have qq : decide ((0 : Int) < (q : Int)) = true := by simp; omega
                have qq1 : 0 < q := by omega
                have k1 : (1 : Int) ≤ (q : Int) := by omega
                have k2 : (q : Int) ≤ (n4 : Int) := by omega
                have k3 : q ≤ n4 := by omega
                have i0' : (0 : Int) ≤ (q : Int) - 1 := by omega
                have i1' : (q : Int) - 1 < (n4 : Int) := by omega
                have i2' : ((q : Int) - 1).toNat = i := by omega
                have i3' : IntKind.i64.wrap ((q : Int) - 1) = (q : Int) - 1 := IntWalk.i64_in _ (by omega)
                have HQI := Lib.hid hqi
                clear hrl hx hpm hv9 hdk htk hrt hv1 hv2 hm hy hym hv9' hqi hq0
                go_wp2
                go_quiet (fail)
                go_wp2
                go_roundw
                case rel => exact ⟨q + 1, by omega, by go_num, by obtain ⟨q, hq⟩ := HQ.out.1; exact ⟨q + nq, by rw [hq, World.drewN_drewN]⟩⟩
                case measure => simp [intOf]; omega
            · have hle4 : n4 ≤ q := by omega
              clear hql hq
              go_wp2
              go_ret
              exact ⟨ret_bool (by rw [HK3.out]; simp), below_step HB.out HQ.out.2⟩
end Go.Proofs.YtojnnemodikpeaaDoor
