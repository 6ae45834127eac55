/-
  The walk of the law FnRefused.
-/
import Derived.Test.YtojnnemodikpeaaDoorTwo
import Derived.Test.YtojnnemodikpeaaDoorApartM
import Derived.Test.YtojnnemodikpeaaDoorDrawN
import Derived.Test.YtojnnemodikpeaaDoorLeftO
import Derived.Test.YtojnnemodikpeaaDoorLens
import Derived.Test.YtojnnemodikpeaaDoorSpecR
import Derived.Test.YtojnnemodikpeaaDoorImplR
namespace Go.Proofs.YtojnnemodikpeaaDoor
open Go.RowKit Go.Conc
set_option linter.unusedVariables false
set_option maxRecDepth 20000 in
set_option maxHeartbeats 8000000 in
theorem walk_FnRefused (A : Option Addr) (n c : Nat) (w : World) (h : Code w A n c) (ht : TabW w) :
    Calls Tryd.prog 10 #[.slice A n c] w fun e w' => e = .returned (.bool true) ∧ Below w.heap.size w w' := by
  have HT := Lib.hid ht
  have hcap := h.cap
  have hle := h.le
  unfold maxLen at hcap
  clear ht
  by_cases e0 : 1048576 < n
  · clear h
    go_enter Tryd.func10, Tryd.ntmps10
    go_wp2
    go_ret
    exact ⟨rfl, Below.refl _ _⟩
  · go_enter Tryd.func10, Tryd.ntmps10
    go_wp2_with fail
    refine (DrawRefusedDeeds_any A n c w h).mono ?_
    rintro e w1 ⟨A1, n1, c1, rooms, A2, n2, c2, ds, rfl, h1, h2, hn1, hn2, b1⟩
    have s1 := b1.size
    have B := b1
    have HT1 := Lib.hid (HT.out.below b1)
    clear h b1
    go_wp2_with fail
    refine (impl_RefusedDeeds _ _ _ _ _ _ _ _ _ _ rooms ds _ h1 h2 (by omega) (by omega) HT1.out).mono ?_
    rintro e w2 ⟨A3, n3, c3, rfl, h3, b2⟩
    have s2 := b2.size
    replace h1 := h1.below b2
    replace h2 := h2.below b2
    replace B := below_step B b2
    have HT2 := Lib.hid (HT1.out.below b2)
    clear b2
    go_wp2_with fail
    refine (impl_RunLines _ _ _ _ _ _ _ _ _ _ rooms ds _ h1 h2 (by omega) (by omega) HT2.out).mono ?_
    rintro e w3 ⟨A4, n4, c4, rfl, h4, b3⟩
    have s3 := b3.size
    replace h1 := h1.below b3
    replace h2 := h2.below b3
    replace h3 := h3.below b3
    replace B := below_step B b3
    have HT3 := Lib.hid (HT2.out.below b3)
    clear b3
    have hrl3 := refusedF_len rooms ds
    have hl3 : (refusedF rooms ds).length = n3 := h3.slc.length
    have hn3 : n3 ≤ 1048576 := by omega
    have hl1 := h1.length
    have hl2 := h2.deedLen
    have hl4 := h4.slc.txtLen
    have h60 := runLinesF_len rooms ds
    have hn4 : n4 ≤ 60 := by omega
    have HX := Lib.hid (And.intro hl1 (And.intro hl2 (And.intro hl3 hl4)))
    have HEQ := Lib.hid (beq_self_eq_true (refusedF rooms ds))
    clear hl1 hl2 hl3 hl4 h60 hrl3
    cases hd : deedsB rooms ds with
    | false =>
      have hr : runLinesF rooms ds = ([], false) := by unfold runLinesF; rw [hd]; rfl
      have hrf : refusedF rooms ds = [] := by unfold refusedF; rw [hr]; rfl
      have hr2 : (runLinesF rooms ds).2 = false := by rw [hr]
      have hn30 : n3 = 0 := by have := HX.out.2.2.1; rw [hrf] at this; exact this.symm
      subst hn30
      rw [hr2]
      have H3 := Lib.hid h3.slc
      clear h3 h4 hd hr hrf hr2
      have once : True := trivial
      go_wp2_with (first
        | (go_at_call 35; clear once; refine (spec_RefusedDeeds _ _ _ _ _ _ _ _ _ _ rooms ds _ h1 h2 (by omega) (by omega)).mono ?_; rintro e w5 ⟨A5, n5, c5, rfl, h5, b5⟩; have hn5 : n5 ≤ 1048576 := (by have := refusedF_len rooms ds; have := h5.slc.length; omega); have s5 := b5.size)
        | (go_at_call 32; refine (cbSame_u (H3.out.below b5) h5.slc (by omega) (by omega)).mono ?_; rintro e w6 ⟨rfl, b6⟩; rw [HEQ.out]))
      replace B := below_step (below_step B b5) b6
      replace h1 := (h1.below b5).below b6
      replace h2 := (h2.below b5).below b6
      have H3' := Lib.hid ((H3.out.below b5).below b6)
      clear b5 b6 h5
      go_wp2_with (first
        | (go_at_call 35; refine (spec_RefusedDeeds _ _ _ _ _ _ _ _ _ _ rooms ds _ h1 h2 (by omega) (by omega)).mono ?_; rintro e w7 ⟨A7, n7, c7, rfl, h7, b7⟩; have hn7 : n7 ≤ 1048576 := (by have := refusedF_len rooms ds; have := h7.slc.length; omega); have s7 := b7.size)
        | (go_at_call 32; refine (cbSame_u (H3'.out.below b7) h7.slc (by omega) (by omega)).mono ?_; rintro e w8 ⟨rfl, b8⟩; rw [HEQ.out]))
      go_ret
      exact ⟨rfl, below_step (below_step B b7) b8⟩
    | true =>
      have hr2 : (runLinesF rooms ds).2 = true := by unfold runLinesF; rw [hd]; rfl
      have hA : (runLinesF rooms ds).1 = (runF rooms ds).2 := by unfold runLinesF; rw [hd]; rfl
      rw [hr2]
      have hn42 : n4 = n2 := by have := HX.out.2.2.2; rw [hA, (runF_len rooms ds).2] at this; have := HX.out.2.1; omega
      have hn32 : n3 ≤ 60 := by
        have h := HX.out.2.2.1
        unfold refusedF at h
        have := refUpto_len (runLinesF rooms ds).1.length (runLinesF rooms ds).1
        have := runLinesF_len rooms ds
        omega
      subst hn42
      have H3 := Lib.hid h3.slc
      have H4 := Lib.hid h4.slc
      have HA := Lib.hid hA
      have HD := Lib.hid hd
      clear hr2 h3 h4 hA hd
      go_wp2_with (first
        | (go_at_call 35; refine (spec_RefusedDeeds _ _ _ _ _ _ _ _ _ _ rooms ds _ h1 h2 (by omega) (by omega)).mono ?_; rintro e w5 ⟨A5, n5, c5, rfl, h5, b5⟩; have hn5 : n5 ≤ 1048576 := (by have := refusedF_len rooms ds; have := h5.slc.length; omega); have s5 := b5.size)
        | (go_at_call 32; refine (cbSame_u (H3.out.below b5) h5.slc (by omega) (by omega)).mono ?_; rintro e w6 ⟨rfl, b6⟩; rw [HEQ.out]))
      have s6 := b6.size
      have HS := Lib.hid (show Slc w6 w.heap.size w1.heap.size 1 A1 n1 c1 (ints rooms) ∧ Slc w6 w.heap.size w1.heap.size 3 A2 n4 c2 (deeds ds) ∧ Slc w6 w1.heap.size w2.heap.size 1 A3 n3 c3 (ints (refusedF rooms ds)) ∧ Slc w6 w2.heap.size w3.heap.size 1 A4 n4 c4 (txts (runLinesF rooms ds).1) from ⟨(h1.below b5).below b6, (h2.below b5).below b6, (H3.out.below b5).below b6, (H4.out.below b5).below b6⟩)
      have HB := Lib.hid (below_step (below_step B b5) b6)
      have HT6 := Lib.hid ((HT3.out.below b5).below b6)
      obtain ⟨i0, hi0, hz0, hz1, hz2⟩ := info_parts info_deed
      obtain ⟨j0, hj0, hy0, hy1, hy2⟩ := info_parts info_str
      have HI := Lib.hid (And.intro hi0 (And.intro hz0 (And.intro hz1 hz2)))
      have HJ := Lib.hid (And.intro hj0 (And.intro hy0 (And.intro hy1 hy2)))
      have hrE : refusedF rooms ds = idxs (fun i => refT ((runLinesF rooms ds).1.getD i [])) ds.length := by
        unfold refusedF
        rw [refUpto_idxs, HA.out, (runF_len rooms ds).2]
      have HRE := Lib.hid hrE
      obtain ⟨wo, hwo⟩ : ∃ wo : World, wo = w6 := ⟨_, rfl⟩
      have HWO := Lib.hid hwo
      have so : w6.heap.size = wo.heap.size := by rw [hwo]
      have HSO := Lib.hid so
      clear hi0 hz0 hz1 hz2 hj0 hy0 hy1 hy2 b5 b6 B h1 h2 h5 hrE hwo so
      go_loopw [8, 9, 10, 11] (fun u v p i wq => ∃ (j g cg gh ch k : Nat), j ≤ n4 ∧ i = .int .i64 j ∧ p = .int .i64 k ∧ k = (idxs (fun i => refT ((runLinesF rooms ds).1.getD i [])) j).length ∧ u = .slice (some ⟨g, 0, none⟩) (keptUpto j ds (runLinesF rooms ds).1).length cg ∧ v = .slice (some ⟨gh, 0, none⟩) (toldK j (runLinesF rooms ds).1).length ch ∧ Rows2 wo wq g (keptUpto j ds (runLinesF rooms ds).1).length cg gh (toldK j (runLinesF rooms ds).1).length ch (keptUpto j ds (runLinesF rooms ds).1) (toldK j (runLinesF rooms ds).1)) (fun _ _ _ i _ => n4 - (intOf i).toNat)
      case atStart =>
        rw [← HWO.out]
        exact ⟨0, wo.heap.size, 0, wo.heap.size + 1, 0, 0, Nat.zero_le _, rfl, rfl, rfl, rfl, by simp; rfl, Rows2.init wo⟩
      case round =>
        obtain ⟨j, g, cg, gh, ch, k, hj, rfl, rfl, hk, rfl, rfl, R⟩ := hrel
        have hlu := keptUpto_len j ds (runLinesF rooms ds).1
        have hlv : (toldK j (runLinesF rooms ds).1).length ≤ j := by rw [toldK_len j ds]; exact hlu
        have HR := Lib.hid R
        have sR := R.B.size
        have HK := Lib.hid hk
        have hkj : k ≤ j := by rw [hk]; exact idxs_len _ _
        have Bo : Below w6.heap.size w6 wr := by have := R.B; rw [HWO.out] at this; exact this
        have HBo := Lib.hid Bo
        clear R hk Bo
        by_cases hjl : j < n4
        · obtain ⟨b, off, d, hA', _, _, h3, hdk, hv0, hv1, hv2⟩ := HS.out.2.1.deedAt hjl
          subst hA'
          obtain ⟨b', off', t, hA', _, _, h3', htk, hvt⟩ := HS.out.2.2.2.txtAt hjl
          subst hA'
          have HC := Lib.hid (And.intro hv0 (And.intro hv1 (And.intro hv2 hvt)))
          have ev0 := (World.cell?_of_block (HBo.out.block _ h3)).trans hv0
          have ev1 := (World.cell?_of_block (HBo.out.block _ h3)).trans hv1
          have ev2 := (World.cell?_of_block (HBo.out.block _ h3)).trans hv2
          clear hv0 hv1 hv2 hvt
          have HL := Lib.hid (keptUpto_succ hdk htk)
          have HM := Lib.hid (toldK_succ htk)
          have HN := Lib.hid (idxs_succ (fun i => refT ((runLinesF rooms ds).1.getD i [])) j)
          have hpt : refT ((runLinesF rooms ds).1.getD j []) = refT t := by rw [List.getD_eq_getElem?_getD, htk]; rfl
          have HPT := Lib.hid hpt
          have j0' : (0 : Int) ≤ (j : Int) := by omega
          have j1 : (j : Int) < (n4 : Int) := by omega
          have k0' : (0 : Int) ≤ (k : Int) := by omega
          have hjd : j < ds.length := by have := HX.out.2.1; omega
          clear hdk htk hpt
          generalize hU : keptUpto j ds (runLinesF rooms ds).1 = U at *
          generalize hV : toldK j (runLinesF rooms ds).1 = V at *
          have HU := Lib.hid hU
          have HV := Lib.hid hV
          clear hU hV
          cases ht : refT t with
          | true =>
            have hhit := idxs_hit (p := fun i => refT ((runLinesF rooms ds).1.getD i [])) hjd (HPT.out.trans ht)
            rw [← HRE.out, ← HK.out] at hhit
            have hkl : k < n3 := by have := (List.getElem?_eq_some_iff.1 hhit).1; have := HX.out.2.2.1; omega
            obtain ⟨b7, off7, v7, e7, _, _, z7, hv7, ec7⟩ := HS.out.2.2.1.cellAt hkl
            subst e7
            have hv7' : v7 = (j : Int) := by rw [hhit] at hv7; injection hv7 with hv7; exact hv7.symm
            subst hv7'
            have ec7' := (World.cell?_of_block (HBo.out.block _ z7)).trans ec7
            have k1' : (k : Int) < (n3 : Int) := by omega
            have HTT := Lib.hid ht
            clear hhit hv7 ht ec7
            go_wp2
            go_roundw
            case rel => exact ⟨j + 1, g, cg, gh, ch, k + 1, by omega, by go_num, by go_num, by rw [HN.out, HPT.out, HTT.out]; simp [HK.out], by rw [HL.out, HTT.out]; simp, by rw [HM.out, HTT.out]; simp, by rw [HL.out, HM.out, HTT.out]; simpa using HR.out⟩
            case measure => simp [intOf]; omega
          | false =>
            have hmiss := idxs_miss (p := fun i => refT ((runLinesF rooms ds).1.getD i [])) (Nat.le_of_lt hjd) (HPT.out.trans ht)
            rw [← HRE.out, ← HK.out] at hmiss
            have HTT := Lib.hid ht
            obtain ⟨hi0, hz0, hz1, hz2⟩ := HI.out
            have HH := Lib.hid hi0
            obtain ⟨hj0, hy0, hy1, hy2⟩ := HJ.out
            have HJ2 := Lib.hid hj0
            clear ht hi0 hj0
            rcases hmiss with hno | ⟨x, hx, hjx⟩
            · have hkl : n3 ≤ k := by have := List.getElem?_eq_none_iff.1 hno; have := HX.out.2.2.1; omega
              clear hno
              go_wp2_with (first
                  | (at_builtin; refine wpList_append_lies _ rfl (.tmp 78) (.tmp 83) 28 rfl wo.heap.size 46 i0 (.agg #[.string ⟨#[]⟩, .int .i64 0, .int .i64 0]) 3 32 Tryd.underlying28 HH.out hz0 hz1 hz2 rfl (by decide) (.slice (some ⟨g, 0, none⟩) U.length cg) U.length _ rfl (HR.out.alloc _).D ⟨_, 0, none⟩ 1 1 [.string d.act, .int .i64 d.a, .int .i64 d.b] rfl rfl (World.news_of_block (cs := #[.string d.act, .int .i64 d.a, .int .i64 d.b]) (heap_alloc_new _ _)) (by simp [Value.oneCell']) (by decide) (by unfold maxLen; omega) (by omega) (by simp; omega) _ rfl ?_; intro g2 c2n w8 hown2 hgr2 hat2 hlt2; have HR8 := Lib.hid ((HR.out.alloc _).appD hown2 hgr2 hat2); have ev3 := (World.cell?_of_block (Below.block (by have := HR8.out.B; rw [HWO.out] at this; exact this) _ h3')).trans HC.out.2.2.2; have s8 := HR8.out.B.size; clear hown2 hgr2 hat2)
                  | (at_builtin; refine wpList_append_lies _ rfl (.tmp 85) (.tmp 90) 38 rfl wo.heap.size 9 j0 (.string ⟨#[]⟩) 1 16 Tryd.underlying38 HJ2.out hy0 hy1 hy2 rfl (by decide) (.slice (some ⟨gh, 0, none⟩) V.length ch) V.length _ rfl (HR8.out.alloc _).T ⟨_, 0, none⟩ 1 1 [.string ⟨t.toArray⟩] rfl rfl (cell_one_new _ _ _) (by simp [Value.oneCell']) (by decide) (by unfold maxLen; omega) (by omega) (by simp; omega) _ rfl ?_; intro h2 e2n w9 hown3 hgr3 hat3 hlt3; have HR9 := Lib.hid ((HR8.out.alloc _).appT hown3 hgr3 hat3); clear hown3 hgr3 hat3))
              go_roundw
              case rel => exact ⟨j + 1, g2, c2n, h2, e2n, k, by omega, by go_num, rfl, by rw [HN.out, HPT.out, HTT.out]; simp [HK.out], by rw [HL.out, HTT.out]; simp, by rw [HM.out, HTT.out]; simp, by rw [HL.out, HM.out, HTT.out]; simpa using HR9.out⟩
              case measure => simp [intOf]; omega
            · have hkl : k < n3 := by have := (List.getElem?_eq_some_iff.1 hx).1; have := HX.out.2.2.1; omega
              obtain ⟨b7, off7, v7, e7, _, _, z7, hv7, ec7⟩ := HS.out.2.2.1.cellAt hkl
              subst e7
              have hv7' : v7 = x := by rw [hx] at hv7; injection hv7 with hv7; exact hv7.symm
              subst hv7'
              have ec7' := (World.cell?_of_block (HBo.out.block _ z7)).trans ec7
              have k1' : (k : Int) < (n3 : Int) := by omega
              have hxq : (v7 == (j : Int)) = false := by rw [beq_eq_false_iff_ne]; omega
              clear hx hv7 hjx ec7
              go_wp2_with (first
                  | (at_builtin; refine wpList_append_lies _ rfl (.tmp 78) (.tmp 83) 28 rfl wo.heap.size 46 i0 (.agg #[.string ⟨#[]⟩, .int .i64 0, .int .i64 0]) 3 32 Tryd.underlying28 HH.out hz0 hz1 hz2 rfl (by decide) (.slice (some ⟨g, 0, none⟩) U.length cg) U.length _ rfl (HR.out.alloc _).D ⟨_, 0, none⟩ 1 1 [.string d.act, .int .i64 d.a, .int .i64 d.b] rfl rfl (World.news_of_block (cs := #[.string d.act, .int .i64 d.a, .int .i64 d.b]) (heap_alloc_new _ _)) (by simp [Value.oneCell']) (by decide) (by unfold maxLen; omega) (by omega) (by simp; omega) _ rfl ?_; intro g2 c2n w8 hown2 hgr2 hat2 hlt2; have HR8 := Lib.hid ((HR.out.alloc _).appD hown2 hgr2 hat2); have ev3 := (World.cell?_of_block (Below.block (by have := HR8.out.B; rw [HWO.out] at this; exact this) _ h3')).trans HC.out.2.2.2; have s8 := HR8.out.B.size; clear hown2 hgr2 hat2)
                  | (at_builtin; refine wpList_append_lies _ rfl (.tmp 85) (.tmp 90) 38 rfl wo.heap.size 9 j0 (.string ⟨#[]⟩) 1 16 Tryd.underlying38 HJ2.out hy0 hy1 hy2 rfl (by decide) (.slice (some ⟨gh, 0, none⟩) V.length ch) V.length _ rfl (HR8.out.alloc _).T ⟨_, 0, none⟩ 1 1 [.string ⟨t.toArray⟩] rfl rfl (cell_one_new _ _ _) (by simp [Value.oneCell']) (by decide) (by unfold maxLen; omega) (by omega) (by simp; omega) _ rfl ?_; intro h2 e2n w9 hown3 hgr3 hat3 hlt3; have HR9 := Lib.hid ((HR8.out.alloc _).appT hown3 hgr3 hat3); clear hown3 hgr3 hat3))
              go_roundw
              case rel => exact ⟨j + 1, g2, c2n, h2, e2n, k, by omega, by go_num, rfl, by rw [HN.out, HPT.out, HTT.out]; simp [HK.out], by rw [HL.out, HTT.out]; simp, by rw [HM.out, HTT.out]; simp, by rw [HL.out, HM.out, HTT.out]; simpa using HR9.out⟩
              case measure => simp [intOf]; omega
        · have ej : j = n4 := by omega
          have edl : j = ds.length := ej.trans HX.out.2.1.symm
          have hkt := kept_told HD.out
          have hkl := kept_left HD.out
          have hkr := kept_ref HD.out
          have hok : deedsB rooms (keptUpto j ds (runLinesF rooms ds).1) = true := kept_ok HD.out (by omega) _
          rw [← edl] at hkt hkl hkr
          generalize hU : keptUpto j ds (runLinesF rooms ds).1 = U at *
          generalize hV : toldK j (runLinesF rooms ds).1 = V at *
          have hsU := row_slc HR.out.D (by decide)
          have hsV := row_slc HR.out.T (by decide)
          have HOL := Lib.hid (And.intro hkt (And.intro hkl (And.intro hkr hok)))
          have b57 := HBo.out
          clear hU hV hkt hkl hkr hok edl ej
          go_wp2_with fail
          refine (impl_RunLines _ _ _ _ _ _ _ _ _ _ rooms U _ (HS.out.1.below b57) hsU (by omega) (by omega) (HT6.out.below b57)).mono ?_
          rintro e w8 ⟨A7, n7, c7, rfl, o7, b8⟩
          rw [HOL.out.1] at o7
          rw [HOL.out.1]
          have z8 := b8.size
          have z6 := b57.size
          have b58 := b57.trans (b8.mono (by omega))
          replace hsU := hsU.below b8
          replace hsV := hsV.below b8
          go_wp2_with fail
          refine (impl_LeftIn _ _ _ _ _ _ _ _ _ _ rooms ds _ (HS.out.1.below b58) (HS.out.2.1.below b58) (by omega) (by omega) (HT6.out.below b58)).mono ?_
          rintro e w9 ⟨A8, n8, c8, rs, mid, rfl, hmid, h8, h9, hx8, b9⟩
          have z9 := b9.size
          have b59 := b58.trans (b9.mono (by omega))
          replace hsU := hsU.below b9
          replace hsV := hsV.below b9
          have hT7 := o7.slc.below b9
          generalize (leftF rooms ds).2 = t2
          go_wp2_with fail
          refine (impl_LeftIn _ _ _ _ _ _ _ _ _ _ rooms U _ (HS.out.1.below b59) hsU (by omega) (by omega) (HT6.out.below b59)).mono ?_
          rintro e w10 ⟨A9, n9, c9, rs2, mid2, rfl, hmid2, h10, h11, hx10, b10⟩
          have z10 := b10.size
          have b60 := b59.trans (b10.mono (by omega))
          have hn7 : V.length = n7 := o7.slc.txtLen
          have hlV : V.length ≤ 60 := by omega
          have hl7 : n7 ≤ 60 := by omega
          rw [HOL.out.2.1] at hx10
          generalize (leftF rooms U).2 = t3
          have hl8 : rs.length = n8 := by have := h8.len; simpa using this
          have hl9 : rs2.length = n9 := by have := h10.len; simpa using this
          have hn89 : n8 = n9 := by have e := congrArg List.length (hx8.trans hx10.symm); simp at e; omega
          have HVV := Lib.hid (beq_self_eq_true V)
          have HLN := Lib.hid (And.intro hl8 (And.intro hl9 hn89))
          have hn8' : n8 ≤ n9 := by omega
          have HXX := Lib.hid (And.intro hx8 hx10)
          have HO := Lib.hid (And.intro (hT7.below b10) (And.intro (hsV.below b10) (And.intro (hsU.below b10) b60)))
          have HLR := Lib.hid (And.intro (h8.below b10) (And.intro (h9.below b10) (And.intro h10 h11)))
          have hn81 : n8 ≤ 6 := by
            have := (leftF_small rooms ds).1
            have e := congrArg List.length hx8
            simp at e; omega
          clear hn7 hl8 hl9 hn89 hx8 hx10 h8 h9 h10 h11 hT7 hsV hsU o7 b57 b8 b58 b9 b59 b10 b60
          go_wp2_with fail
          go_loopw [18] (fun i wr => ∃ l : Nat, l ≤ n8 ∧ i = .int .i64 l ∧ ∃ q, wr = w10.drewN q) (fun i _ => n8 - (intOf i).toNat)
          case atStart => exact ⟨0, by omega, rfl, 0, rfl⟩
          case round =>
            obtain ⟨l, hl, rfl, hq⟩ := hrel
            have BQ : Below w10.heap.size w10 wr := by obtain ⟨q, rfl⟩ := hq; exact below_drewN (Below.refl _ _) q
            have HQ := Lib.hid (And.intro hq BQ)
            clear hq BQ
            by_cases hlt : l < n8
            · obtain ⟨r, hr⟩ : ∃ r, rs[l]? = some r := ⟨_, List.getElem?_eq_getElem (by have := HLN.out; omega)⟩
              obtain ⟨r2, hr2⟩ : ∃ r2, rs2[l]? = some r2 := ⟨_, List.getElem?_eq_getElem (by have := HLN.out; omega)⟩
              have hrx : r2.xs = r.xs := by
                have e := congrArg (fun x => x[l]?) (HXX.out.1.trans HXX.out.2.symm)
                simp only [List.getElem?_map, hr, hr2, Option.map_some] at e
                injection e with e
                exact e.symm
              obtain ⟨b8, off8, e8, _, _, z8', h8'⟩ := (HLR.out.1.below HQ.out.2).at_ (show 0 < n8 by omega)
              subst e8
              have ec8 := h8' l (.slice r.A r.n r.c) (by rw [List.getElem?_map, hr]; rfl)
              obtain ⟨b9, off9, e9, _, _, z9', h9'⟩ := (HLR.out.2.2.1.below HQ.out.2).at_ (show 0 < n9 by omega)
              subst e9
              have ec9 := h9' l (.slice r2.A r2.n r2.c) (by rw [List.getElem?_map, hr2]; rfl)
              have hrow := ((HLR.out.2.1.own r (List.mem_of_getElem? hr)).slc).below HQ.out.2
              have hrow2 := ((HLR.out.2.2.2.own r2 (List.mem_of_getElem? hr2)).slc).below HQ.out.2
              rw [hrx] at hrow2
              have hln := hrow.length
              have hln2 := hrow2.length
              have hlsm : r.xs.length ≤ 1000 := (leftF_small rooms ds).2 r.xs (List.mem_of_getElem? (by rw [← HXX.out.1, List.getElem?_map, hr]; rfl))
              have hrn : r.n ≤ 1000 := by omega
              have hr2n : r2.n ≤ 1000 := by omega
              have HRR := Lib.hid (And.intro hrow hrow2)
              have HRX := Lib.hid (beq_self_eq_true r.xs)
              have l0 : (0 : Int) ≤ (l : Int) := by omega
              have l1 : (l : Int) < (n8 : Int) := by omega
              have l2 : (l : Int) < (n9 : Int) := by omega
              have HE := Lib.hid fun m : Nat => Calls.quiet_of (w := wr) (n := m) (v := .bool true) ((cbSame_any _ _ _ _ _ _ _ _ _ _ r.xs r.xs _ (HRR.out.1.drewN m) (HRR.out.2.drewN m) (by omega) (by omega)).mono (by rintro e w' ⟨rfl, m, rfl⟩; exact ⟨by rw [HRX.out], m, rfl⟩))
              clear hr hr2 hrx h8' h9' hrow hrow2 hln hln2 hlsm
              go_wp2
              go_quiet ((go_at_call 32; exact HE.out _))
              go_wp2
              go_roundw
              case rel => exact ⟨l + 1, by omega, by go_num, by obtain ⟨q, hq⟩ := HQ.out.1; exact ⟨q + nq, by rw [hq, World.drewN_drewN]⟩⟩
              case measure => simp [intOf]; omega
            · have hle8 : n8 ≤ l := by omega
              clear hlt hl
              go_wp2_with (first
                | (go_at_call 31; refine (cbTexts_u (HO.out.1.below HQ.out.2) (HO.out.2.1.below HQ.out.2) (by omega) (by omega)).mono ?_; rintro e w12 ⟨rfl, b12⟩; rw [HVV.out]; have s12 := b12.size)
                | (go_at_call 36; refine (impl_RefusedDeeds _ _ _ _ _ _ _ _ _ _ rooms U _ (((HS.out.1.below HO.out.2.2.2).below HQ.out.2).below b12) ((HO.out.2.2.1.below HQ.out.2).below b12) (by omega) (by omega) (((HT6.out.below HO.out.2.2.2).below HQ.out.2).below b12)).mono ?_; rintro e w13 ⟨A13, n13, c13, rfl, h13, b13⟩; obtain rfl : n13 = 0 := (by have := h13.slc.length; rw [HOL.out.2.2.1] at this; exact this.symm)))
              go_ret
              exact ⟨rfl, below_step (below_step (below_step (below_step HB.out HO.out.2.2.2) HQ.out.2) b12) b13⟩
end Go.Proofs.YtojnnemodikpeaaDoor
