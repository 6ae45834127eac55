/-
  The walk of the law FnLinesApart.
-/
import Derived.Test.YtojnnemodikpeaaDoorTwo
import Derived.Test.YtojnnemodikpeaaDoorApartM
import Derived.Test.YtojnnemodikpeaaDoorDrawN
import Derived.Test.YtojnnemodikpeaaDoorLeftO
import Derived.Test.YtojnnemodikpeaaDoorLens
import Derived.Test.YtojnnemodikpeaaDoorSpecR
namespace Go.Proofs.YtojnnemodikpeaaDoor
open Go.RowKit Go.Conc
set_option linter.unusedVariables false
set_option maxRecDepth 20000 in
set_option maxHeartbeats 8000000 in
theorem walk_FnLinesApart (A : Option Addr) (n c : Nat) (w : World) (h : Code w A n c) (ht : TabW w) :
    Calls Tryd.prog 8 #[.slice A n c] w fun e w' => e = .returned (.bool true) ∧ Below w.heap.size w w' := by
  have HT := Lib.hid ht
  have hcap := h.cap
  have hle := h.le
  unfold maxLen at hcap
  clear ht
  by_cases e0 : 1048576 < n
  · clear h
    go_enter Tryd.func8, Tryd.ntmps8
    go_wp2
    go_ret
    exact ⟨rfl, Below.refl _ _⟩
  · go_enter Tryd.func8, Tryd.ntmps8
    go_wp2_with fail
    refine (DrawLeftIn_any A n c w h).mono ?_
    rintro e w1 ⟨A1, n1, c1, rooms, A2, n2, c2, ds, rfl, h1, h2, hn1, hn2, b1⟩
    have s1 := b1.size
    have B := b1
    have HT1 := Lib.hid (HT.out.below b1)
    clear h b1
    go_wp2_with fail
    refine (impl_LeftIn _ _ _ _ _ _ _ _ _ _ rooms ds _ h1 h2 (by omega) (by omega) HT1.out).mono ?_
    rintro e w2 ⟨A5, n5, c5, rs, mid, rfl, hmid, h5, h6, hx, b2⟩
    have s2 := b2.size
    replace h1 := h1.below b2
    replace h2 := h2.below b2
    replace B := below_step B b2
    have HT2 := Lib.hid (HT1.out.below b2)
    clear b2
    generalize hF2 : (leftF rooms ds).2 = t
    have HF2 := Lib.hid hF2
    clear hF2
    go_wp2_with fail
    refine (spec_LeftIn _ _ _ _ _ _ _ _ _ _ rooms ds _ h1 h2 (by omega) (by omega)).mono ?_
    rintro e w3 ⟨A6, n6, c6, qs, rfl, h7, hq, hx7, b3⟩
    have s3 := b3.size
    replace h1 := h1.below b3
    replace h2 := h2.below b3
    replace h5 := h5.below b3
    replace h6 := h6.below b3
    replace B := below_step B b3
    have HT3 := Lib.hid (HT2.out.below b3)
    rw [HF2.out]
    clear b3 h7 hq hx7
    have hl1 := h1.length
    have hl2 := h2.deedLen
    have hl5 : rs.length = n5 := by have := h5.len; simpa using this
    have HX := Lib.hid (And.intro hx (And.intro hl1 (And.intro hl2 hl5)))
    clear hx hl1 hl2 hl5
    cases t with
    | false =>
      go_wp2
      go_ret
      exact ⟨rfl, B⟩
    | true =>
      have hd : deedsB rooms ds = true := by
        have := HF2.out
        unfold leftF at this
        cases h : deedsB rooms ds with
        | false => rw [h] at this; cases this
        | true => rfl
      have HD := Lib.hid hd
      have HB3 := Lib.hid B
      go_wp2_with fail
      refine (impl_RunLines _ _ _ _ _ _ _ _ _ _ rooms ds _ h1 h2 (by omega) (by omega) HT3.out).mono ?_
      rintro e w5 ⟨A3, n3, c3, rfl, h3, b5⟩
      have s5 := b5.size
      have hl3 := h3.slc.txtLen
      have hA : (runLinesF rooms ds).1 = (runF rooms ds).2 := by unfold runLinesF; rw [hd]; rfl
      have hn32 : n3 = n2 := by rw [hA, (runF_len rooms ds).2] at hl3; have := HX.out.2.2.1; omega
      have hn51 : n5 = n1 := by
        have e := congrArg List.length HX.out.1
        unfold leftF at e
        rw [hd] at e
        simp only [if_true] at e
        rw [List.length_map, List.length_map, List.length_drop, (runF_len rooms ds).1] at e
        have := HX.out.2.2.2
        have := HX.out.2.1
        omega
      have h60 : n2 ≤ 60 := by have := (deedsB_of hd).2.2.1; have := HX.out.2.2.1; omega
      subst hn32 hn51
      generalize (runLinesF rooms ds).2 = tt
      have HS5 := Lib.hid (show Slc w5 w.heap.size w1.heap.size 1 A1 n5 c1 (ints rooms) ∧ Slc w5 w.heap.size w1.heap.size 3 A2 n3 c2 (deeds ds) ∧ Slc w5 w3.heap.size w5.heap.size 1 A3 n3 c3 (txts (runLinesF rooms ds).1) ∧ Slc w5 w1.heap.size mid 1 A5 n5 c5 (rs.map Row.val) ∧ RowsIn w5 mid w2.heap.size rs from ⟨h1.below b5, h2.below b5, h3.slc, (h5.below b5).wide (by omega) (Nat.le_refl _), h6.below b5⟩)
      have HB5 := Lib.hid (below_step B b5)
      have HT5 := Lib.hid (HT3.out.below b5)
      obtain ⟨i0, hi0, hz0, hz1, hz2⟩ := info_parts info_deed
      obtain ⟨j0, hj0, hy0, hy1, hy2⟩ := info_parts info_str
      have HI := Lib.hid (And.intro hi0 (And.intro hz0 (And.intro hz1 hz2)))
      have HJ := Lib.hid (And.intro hj0 (And.intro hy0 (And.intro hy1 hy2)))
      have HA := Lib.hid hA
      clear hi0 hz0 hz1 hz2 hj0 hy0 hy1 hy2 b5 B h1 h2 h3 h5 h6 hl3 hd hA
      go_wp2_with fail
      go_loopw [11] (fun i wr => ∃ k : Nat, k ≤ n5 + 1 ∧ i = .int .i64 k ∧ Below w5.heap.size w5 wr) (fun i _ => n5 + 1 - (intOf i).toNat)
      case atStart => exact ⟨0, by omega, rfl, Below.refl _ _⟩
      case round =>
        obtain ⟨k, hk, rfl, B6⟩ := hrel
        by_cases hlt : k < n5 + 1
        · have hkn : k ≤ n5 := by omega
          have s6 := B6.size
          have HB6 := Lib.hid B6
          clear B6
          obtain ⟨wo, hwo⟩ : ∃ wo : World, wo = wr := ⟨_, rfl⟩
          have HBo := Lib.hid (show Below w5.heap.size w5 wo by rw [hwo]; exact HB6.out)
          have so := HBo.out.size
          have HWO := Lib.hid hwo
          clear hwo
          go_wp2_with fail
          go_loopw [12, 13, 14] (fun u v i wq => ∃ (j g cg gh ch : Nat), j ≤ n3 ∧ i = .int .i64 j ∧ u = .slice (some ⟨g, 0, none⟩) (ownUpto j ds k).length cg ∧ v = .slice (some ⟨gh, 0, none⟩) (toldUpto j ds (runLinesF rooms ds).1 k).length ch ∧ Rows2 wo wq g (ownUpto j ds k).length cg gh (toldUpto j ds (runLinesF rooms ds).1 k).length ch (ownUpto j ds k) (toldUpto j ds (runLinesF rooms ds).1 k)) (fun _ _ i _ => n3 - (intOf i).toNat)
          case atStart =>
            rw [← HWO.out]
            exact ⟨0, wo.heap.size, 0, wo.heap.size + 1, 0, Nat.zero_le _, rfl, rfl, by simp; rfl, Rows2.init wo⟩
          case round =>
            obtain ⟨j, g, cg, gh, ch, hj, rfl, rfl, rfl, R⟩ := hrel
            have hlu := ownUpto_len j ds k
            have hlv0 : (toldUpto j ds (runLinesF rooms ds).1 k).length = (ownUpto j ds k).length := toldUpto_len (by have := HX.out.2.2.1; omega) (by rw [HA.out, (runF_len rooms ds).2])
            have hlv : (toldUpto j ds (runLinesF rooms ds).1 k).length ≤ j := by omega
            have HLV := Lib.hid hlv0
            clear hlv0
            have HR := Lib.hid R
            have sR := R.B.size
            clear R
            by_cases hjl : j < n3
            · have b57 := HBo.out.trans (HR.out.B.mono so)
              obtain ⟨b, off, d, hA', _, _, h3, hdk, hv0, hv1, hv2⟩ := (HS5.out.2.1.below HBo.out).deedAt hjl
              subst hA'
              obtain ⟨b', off', t, hA', _, _, h3', htk, hvt⟩ := (HS5.out.2.2.1.below HBo.out).txtAt hjl
              subst hA'
              have HC := Lib.hid (And.intro hv0 (And.intro hv1 (And.intro hv2 hvt)))
              have ev0 := (World.cell?_of_block (HR.out.B.block _ h3)).trans hv0
              have ev1 := (World.cell?_of_block (HR.out.B.block _ h3)).trans hv1
              have ev2 := (World.cell?_of_block (HR.out.B.block _ h3)).trans hv2
              clear hv0 hv1 hv2 hvt
              have HL := Lib.hid (ownUpto_succ (l := k) hdk)
              have HM := Lib.hid (toldUpto_succ (l := k) hdk htk)
              have j0' : (0 : Int) ≤ (j : Int) := by omega
              have j1 : (j : Int) < (n3 : Int) := by omega
              clear hdk htk b57
              generalize hU : ownUpto j ds k = U at *
              generalize hV : toldUpto j ds (runLinesF rooms ds).1 k = V at *
              have HU := Lib.hid hU
              have HV := Lib.hid hV
              clear hU hV
              by_cases hdl : d.a = (k : Int)
              · have hL' := HL.out
                have hM' := HM.out
                simp only [hdl, if_true] at hL' hM'
                have HL2 := Lib.hid hL'
                have HM2 := Lib.hid hM'
                have hdq : (d.a == (k : Int)) = true := by rw [beq_iff_eq]; exact hdl
                clear hL' hM' hdl
                obtain ⟨hi0, hz0, hz1, hz2⟩ := HI.out
                have HH := Lib.hid hi0
                obtain ⟨hj0, hy0, hy1, hy2⟩ := HJ.out
                have HJ2 := Lib.hid hj0
                clear hi0 hj0
                go_wp2_with (first
                  | (at_builtin; refine wpList_append_lies _ rfl (.tmp 76) (.tmp 81) 28 rfl wo.heap.size 46 i0 (.agg #[.string ⟨#[]⟩, .int .i64 0, .int .i64 0]) 3 32 Tryd.underlying28 HH.out hz0 hz1 hz2 rfl (by decide) (.slice (some ⟨g, 0, none⟩) U.length cg) U.length _ rfl (HR.out.alloc _).D ⟨_, 0, none⟩ 1 1 [.string d.act, .int .i64 d.a, .int .i64 d.b] rfl rfl (World.news_of_block (cs := #[.string d.act, .int .i64 d.a, .int .i64 d.b]) (heap_alloc_new _ _)) (by simp [Value.oneCell']) (by decide) (by unfold maxLen; omega) (by omega) (by simp; omega) _ rfl ?_; intro g2 c2n w8 hown2 hgr2 hat2 hlt2; have HR8 := Lib.hid ((HR.out.alloc _).appD hown2 hgr2 hat2); have ev3 := (World.cell?_of_block (HR8.out.B.block _ h3')).trans HC.out.2.2.2; have s8 := HR8.out.B.size; clear hown2 hgr2 hat2)
                  | (at_builtin; refine wpList_append_lies _ rfl (.tmp 83) (.tmp 88) 38 rfl wo.heap.size 9 j0 (.string ⟨#[]⟩) 1 16 Tryd.underlying38 HJ2.out hy0 hy1 hy2 rfl (by decide) (.slice (some ⟨gh, 0, none⟩) V.length ch) V.length _ rfl (HR8.out.alloc _).T ⟨_, 0, none⟩ 1 1 [.string ⟨t.toArray⟩] rfl rfl (cell_one_new _ _ _) (by simp [Value.oneCell']) (by decide) (by unfold maxLen; omega) (by omega) (by simp; omega) _ rfl ?_; intro h2 e2n w9 hown3 hgr3 hat3 hlt3; have HR9 := Lib.hid ((HR8.out.alloc _).appT hown3 hgr3 hat3); clear hown3 hgr3 hat3))
                go_roundw
                case rel => exact ⟨j + 1, g2, c2n, h2, e2n, by omega, by go_num, by rw [HL2.out]; simp, by rw [HM2.out]; simp, by rw [HL2.out, HM2.out]; simpa using HR9.out⟩
                case measure => simp [intOf]; omega
              · have hL' := HL.out
                have hM' := HM.out
                simp only [hdl, if_false, List.append_nil] at hL' hM'
                have HL2 := Lib.hid hL'
                have HM2 := Lib.hid hM'
                have hdq : (d.a == (k : Int)) = false := by rw [beq_eq_false_iff_ne]; exact hdl
                clear hL' hM' hdl
                go_wp2
                go_roundw
                case rel => exact ⟨j + 1, g, cg, gh, ch, by omega, by go_num, by rw [HL2.out], by rw [HM2.out], by rw [HL2.out, HM2.out]; exact HR.out⟩
                case measure => simp [intOf]; omega
            · have ej : j = n3 := by omega
              have hrl : rooms.length = n5 := HX.out.2.1
              have edl : j = ds.length := ej.trans HX.out.2.2.1.symm
              have hot := own_told HD.out (l := k) (by omega)
              have hol : 1 ≤ k → (leftF rooms (ownUpto j ds k)).1[k - 1]? = (leftF rooms ds).1[k - 1]? := fun h1 => by rw [edl]; exact own_left HD.out (by omega) h1
              have hok : deedsB rooms (ownUpto j ds k) = true := own_ok HD.out k j
              rw [← edl] at hot
              generalize hU : ownUpto j ds k = U at *
              generalize hV : toldUpto j ds (runLinesF rooms ds).1 k = V at *
              have b57 := HBo.out.trans (HR.out.B.mono so)
              have hsU := row_slc HR.out.D (by decide)
              have hsV := row_slc HR.out.T (by decide)
              have HOL := Lib.hid (And.intro hol (And.intro hok hot))
              clear hU hV hol hok hot hrl edl ej
              go_wp2_with fail
              refine (impl_RunLines _ _ _ _ _ _ _ _ _ _ rooms U _ (HS5.out.1.below b57) hsU (by omega) (by omega) (HT5.out.below b57)).mono ?_
              rintro e w8 ⟨A7, n7, c7, rfl, o7, b8⟩
              rw [HOL.out.2.2] at o7
              rw [HOL.out.2.2]
              have z8 := b8.size
              have b58 := b57.trans (b8.mono (by omega))
              replace hsU := hsU.below b8
              replace hsV := hsV.below b8
              go_wp2_with fail
              refine (impl_LeftIn _ _ _ _ _ _ _ _ _ _ rooms U _ (HS5.out.1.below b58) hsU (by omega) (by omega) (HT5.out.below b58)).mono ?_
              rintro e w9 ⟨A8, n8, c8, rs2, mid2, rfl, hmid2, h8, h9, hx8, b9⟩
              have z9 := b9.size
              have b59 := b58.trans (b9.mono (by omega))
              have hT7 := o7.slc.below b9
              have hn7 : V.length = n7 := o7.slc.txtLen
              have hlV : V.length ≤ 60 := by omega
              have hl7 : n7 ≤ 60 := by omega
              clear hn7
              replace hsV := hsV.below b9
              have HVV := Lib.hid (beq_self_eq_true V)
              have HO := Lib.hid (And.intro hT7 (And.intro hsV b59))
              have hlF : (leftF rooms U).2 = true := by unfold leftF; rw [HOL.out.2.1]; rfl
              rw [hlF]
              clear hT7 hsV hsU o7 b8 b9 b58 hlF
              by_cases hk0 : k < 1
              · have q0 : decide ((0 : Int) < (k : Int)) = false := by simp; omega
                have q1 : ¬ 0 < k := by omega
                have HK0 := Lib.hid hk0
                clear b59 h8 h9 hx8 hk0
                go_upto_region 22 with fail
                have HE1 : Hid (∀ q, Calls Tryd.prog 31 #[.slice A7 n7 c7, .slice (some ⟨gh, 0, none⟩) V.length ch] (w9.drewN q) fun e w'' => e = .returned (.bool true) ∧ ∃ m, w'' = w9.drewN m) := Lib.hid fun q => Calls.quiet_of ((cbTexts_any _ _ _ _ _ _ _ _ _ _ V V _ (HO.out.1.drewN q) (HO.out.2.1.drewN q) (by omega) (by omega)).mono (by rintro e w' ⟨rfl, m, rfl⟩; exact ⟨by rw [HVV.out], m, rfl⟩))
                go_quiet ((go_at_call 31; exact HE1.out _))
                go_wp2
                go_roundw
                case rel => exact ⟨k + 1, by omega, by go_num, (HO.out.2.2).trans (below_drewN (Below.refl _ _) _)⟩
                case measure => simp [intOf]; omega
              · have k1 : (1 : Int) ≤ (k : Int) := by omega
                have k2 : (k : Int) ≤ (n5 : Int) := by omega
                have q0 : decide ((0 : Int) < (k : Int)) = true := by simp; omega
                have q1 : 0 < k := by omega
                obtain ⟨i, hki⟩ : ∃ i, k = i + 1 := ⟨k - 1, by omega⟩
                have hol := HOL.out.1 (by omega)
                rw [show k - 1 = i by omega] at hol
                have hl5 := HX.out.2.2.2
                have hlen8 : rs2.length = n8 := by have := h8.len; simpa using this
                obtain ⟨r, hr⟩ : ∃ r, rs[i]? = some r := ⟨_, List.getElem?_eq_getElem (by omega)⟩
                have hrF : (leftF rooms ds).1[i]? = some r.xs := by rw [← HX.out.1, List.getElem?_map, hr]; rfl
                have hr2F : (rs2.map Row.xs)[i]? = some r.xs := by rw [hx8, hol, hrF]
                obtain ⟨r2, hr2, hrx⟩ : ∃ r2, rs2[i]? = some r2 ∧ r2.xs = r.xs := by
                  rw [List.getElem?_map] at hr2F
                  cases h : rs2[i]? with
                  | none => rw [h] at hr2F; cases hr2F
                  | some r2 => rw [h] at hr2F; injection hr2F with e; exact ⟨r2, rfl, e⟩
                have hn8 : i < n8 := by have := (List.getElem?_eq_some_iff.1 hr2).1; omega
                obtain ⟨b7, off7, e7, _, _, z7, h7⟩ := (HS5.out.2.2.2.1.below b59).at_ (show 0 < n5 by omega)
                subst e7
                have ec7 := h7 i (.slice r.A r.n r.c) (by rw [List.getElem?_map, hr]; rfl)
                obtain ⟨b8, off8, e8, _, _, z8', h8'⟩ := h8.at_ (show 0 < n8 by omega)
                subst e8
                have ec8 := h8' i (.slice r2.A r2.n r2.c) (by rw [List.getElem?_map, hr2]; rfl)
                have hrow := ((HS5.out.2.2.2.2.own r (List.mem_of_getElem? hr)).slc).below b59
                have hrow2 := (h9.own r2 (List.mem_of_getElem? hr2)).slc
                rw [hrx] at hrow2
                have hln := hrow.length
                have hln2 := hrow2.length
                have hlsm : r.xs.length ≤ 1000 := by
                  have := (leftF_small rooms ds).2 r.xs (List.mem_of_getElem? hrF)
                  exact this
                have HRR := Lib.hid (And.intro hrow hrow2)
                have hrn : r.n ≤ 1000 := by omega
                have hr2n : r2.n ≤ 1000 := by omega
                have i0' : (0 : Int) ≤ (k : Int) - 1 := by omega
                have i1' : (k : Int) - 1 < (n5 : Int) := by omega
                have i1'' : (k : Int) - 1 < (n8 : Int) := by omega
                have k3 : (k : Int) ≤ (n8 : Int) := by omega
                have kn8 : k ≤ n8 := by omega
                have i2' : ((k : Int) - 1).toNat = i := by omega
                have i3' : IntKind.i64.wrap ((k : Int) - 1) = (k : Int) - 1 := IntWalk.i64_in _ (by omega)
                have HKI := Lib.hid hki
                have HXX := Lib.hid (beq_self_eq_true r.xs)
                clear b59 h8 h9 hx8 hk0 hol hl5 hlen8 hr hrF hr2F hr2 hrx h7 h8' hrow hrow2 hln hln2 hlsm hki
                go_upto_region 22 with fail
                have HE1 : Hid (∀ q, Calls Tryd.prog 31 #[.slice A7 n7 c7, .slice (some ⟨gh, 0, none⟩) V.length ch] (w9.drewN q) fun e w'' => e = .returned (.bool true) ∧ ∃ m, w'' = w9.drewN m) := Lib.hid fun q => Calls.quiet_of ((cbTexts_any _ _ _ _ _ _ _ _ _ _ V V _ (HO.out.1.drewN q) (HO.out.2.1.drewN q) (by omega) (by omega)).mono (by rintro e w' ⟨rfl, m, rfl⟩; exact ⟨by rw [HVV.out], m, rfl⟩))
                have HE2 : Hid (∀ q, Calls Tryd.prog 32 #[.slice r2.A r2.n r2.c, .slice r.A r.n r.c] (w9.drewN q) fun e w'' => e = .returned (.bool true) ∧ ∃ m, w'' = w9.drewN m) := Lib.hid fun q => Calls.quiet_of ((cbSame_any _ _ _ _ _ _ _ _ _ _ r.xs r.xs _ (HRR.out.2.drewN q) (HRR.out.1.drewN q) (by omega) (by omega)).mono (by rintro e w' ⟨rfl, m, rfl⟩; exact ⟨by rw [HXX.out], m, rfl⟩))
                go_quiet ((first | (go_at_call 31; exact HE1.out _) | (go_at_call 32; exact HE2.out _)))
                go_wp2
                go_roundw
                case rel => exact ⟨k + 1, by omega, by go_num, (HO.out.2.2).trans (below_drewN (Below.refl _ _) _)⟩
                case measure => simp [intOf]; omega
        · have e : k = n5 + 1 := by omega
          subst e
          go_wp2
          go_ret
          exact ⟨rfl, below_step HB5.out B6⟩
end Go.Proofs.YtojnnemodikpeaaDoor
