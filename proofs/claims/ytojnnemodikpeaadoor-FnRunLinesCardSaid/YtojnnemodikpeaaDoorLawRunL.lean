/-
  The walk of the law FnRunLines.
-/
import Derived.Test.YtojnnemodikpeaaDoorCbT
import Derived.Test.YtojnnemodikpeaaDoorPutsM
import Derived.Test.YtojnnemodikpeaaDoorDrawN
import Derived.Test.YtojnnemodikpeaaDoorLeftO
import Derived.Test.YtojnnemodikpeaaDoorLens
import Derived.Test.YtojnnemodikpeaaDoorSpecR
import Derived.Test.YtojnnemodikpeaaDoorAppS
import Derived.Test.YtojnnemodikpeaaDoorApartM
namespace Go.Proofs.YtojnnemodikpeaaDoor
open Go.RowKit Go.Conc
set_option linter.unusedVariables false
set_option maxRecDepth 20000 in
set_option maxHeartbeats 8000000 in
theorem walk_FnRunLines (A : Option Addr) (n c : Nat) (w : World) (h : Code w A n c) (ht : TabW w) :
    Calls Tryd.prog 4 #[.slice A n c] w fun e w' => e = .returned (.bool true) ∧ Below w.heap.size w w' := by
  have HT := Lib.hid ht
  have hcap := h.cap
  have hle := h.le
  unfold maxLen at hcap
  clear ht
  by_cases e0 : 1048576 < n
  · clear h
    go_enter Tryd.func4, Tryd.ntmps4
    go_wp2
    go_ret
    exact ⟨rfl, Below.refl _ _⟩
  · go_enter Tryd.func4, Tryd.ntmps4
    go_wp2_with fail
    refine (DrawRunLines_any A n c w h).mono ?_
    rintro e w1 ⟨A1, n1, c1, rooms, A2, n2, c2, ds, rfl, h1, h2, hn1, hn2, b1⟩
    have s1 := b1.size
    have B := b1
    have HT1 := Lib.hid (HT.out.below b1)
    clear h b1
    go_wp2_with fail
    refine (impl_RunLines _ _ _ _ _ _ _ _ _ _ rooms ds _ h1 h2 (by omega) (by omega) HT1.out).mono ?_
    rintro e w2 ⟨A3, n3, c3, rfl, h3, b2⟩
    have s2 := b2.size
    replace h1 := h1.below b2
    replace h2 := h2.below b2
    replace B := below_step B b2
    have HT2 := Lib.hid (HT1.out.below b2)
    clear b2
    go_wp2_with fail
    refine (spec_RunLines _ _ _ _ _ _ _ _ _ _ rooms ds _ h1 h2 (by omega) (by omega)).mono ?_
    rintro e w3 ⟨A4, n4, c4, rfl, h4, b3⟩
    have s3 := b3.size
    replace h1 := h1.below b3
    replace h2 := h2.below b3
    replace h3 := h3.below b3
    replace B := below_step B b3
    have HT3 := Lib.hid (HT2.out.below b3)
    clear b3
    go_wp2_with fail
    refine (impl_LeftIn _ _ _ _ _ _ _ _ _ _ rooms ds _ h1 h2 (by omega) (by omega) HT3.out).mono ?_
    rintro e w4 ⟨A5, n5, c5, rs, mid, rfl, hmid, h5, h6, hx, b4⟩
    have s4 := b4.size
    replace h1 := h1.below b4
    replace h2 := h2.below b4
    replace h3 := h3.below b4
    replace h4 := h4.below b4
    replace B := below_step B b4
    have HT4 := Lib.hid (HT3.out.below b4)
    have hl1 := h1.length
    have hl2 := h2.deedLen
    have hl3 := h3.slc.txtLen
    have hl4 := h4.slc.txtLen
    have hl5 : rs.length = n5 := by have := h5.len; simpa using this
    have h60 := runLinesF_len rooms ds
    have hF2 : (leftF rooms ds).2 = (runLinesF rooms ds).2 := by unfold leftF runLinesF; split <;> rfl
    rw [hF2]
    have HX := Lib.hid (And.intro hx (And.intro hl1 (And.intro hl2 (And.intro hl3 (And.intro hl4 hl5)))))
    have HS := Lib.hid (And.intro h1 (And.intro h2 (And.intro h3.slc (And.intro h4.slc (And.intro h5 h6)))))
    have hn3 : n3 ≤ 60 := by omega
    have hn4 : n4 ≤ 60 := by omega
    have HEQ := Lib.hid (beq_self_eq_true (runLinesF rooms ds).1)
    clear b4 hx hl1 hl2 hl3 hl4 hl5 h60 hF2 h1 h2 h3 h4 h5 h6
    cases hd : deedsB rooms ds with
    | false =>
      have hr : (runLinesF rooms ds) = ([], false) := by unfold runLinesF; rw [hd]; rfl
      have hlf : (leftF rooms ds) = ([], false) := by unfold leftF; rw [hd]; rfl
      have hn30 : n3 = 0 := by have := HX.out.2.2.2.1; rw [hr] at this; simpa using this.symm
      have hn50 : n5 = 0 := by have := HX.out.1; rw [hlf] at this; have e := congrArg List.length this; rw [List.length_map] at e; have e2 : rs.length = 0 := e; have := HX.out.2.2.2.2.2; omega
      have hr2 : (runLinesF rooms ds).2 = false := by rw [hr]
      subst hn30 hn50
      rw [hr2]
      have once : True := trivial
      go_wp2_with (go_at_call 31; clear once; refine (cbTexts_u HS.out.2.2.1 HS.out.2.2.2.1 (by omega) (by omega)).mono ?_; rintro e w5 ⟨rfl, b5⟩; rw [HEQ.out])
      have once : True := trivial
      go_wp2_with (go_at_call 31; clear once; refine (cbTexts_u (HS.out.2.2.1.below b5) (HS.out.2.2.2.1.below b5) (by omega) (by omega)).mono ?_; rintro e w6 ⟨rfl, b6⟩; rw [HEQ.out])
      go_ret
      exact ⟨rfl, below_step (below_step B b5) b6⟩
    | true =>
      have hr2 : (runLinesF rooms ds).2 = true := by unfold runLinesF; rw [hd]; rfl
      have hA : (runLinesF rooms ds).1 = (runF rooms ds).2 := by unfold runLinesF; rw [hd]; rfl
      have hLf : (leftF rooms ds).1 = ((runF rooms ds).1.drop 1).map Ln.held := by unfold leftF; rw [hd]; rfl
      rw [hr2]
      have HD := Lib.hid (And.intro hd (And.intro hA hLf))
      clear hd hA hLf hr2
      have once : True := trivial
      go_wp2_with (go_at_call 31; clear once; refine (cbTexts_u HS.out.2.2.1 HS.out.2.2.2.1 (by omega) (by omega)).mono ?_; rintro e w5 ⟨rfl, b5⟩; rw [HEQ.out])
      have hn32 : n3 = n2 := by have := HX.out.2.2.2.1; rw [HD.out.2.1, (runF_len rooms ds).2] at this; have := HX.out.2.2.1; omega
      have hn51 : n5 = n1 := by
        have e := congrArg List.length HX.out.1
        rw [HD.out.2.2, List.length_map, List.length_map, List.length_drop, (runF_len rooms ds).1] at e
        have := HX.out.2.2.2.2.2
        have := HX.out.2.1
        omega
      subst hn32 hn51
      have s5 := b5.size
      have HS5 := Lib.hid (show Slc w5 w.heap.size w1.heap.size 1 A1 n5 c1 (ints rooms) ∧ Slc w5 w.heap.size w1.heap.size 3 A2 n3 c2 (deeds ds) ∧ Slc w5 w1.heap.size w2.heap.size 1 A3 n3 c3 (txts (runLinesF rooms ds).1) ∧ Slc w5 w3.heap.size mid 1 A5 n5 c5 (rs.map Row.val) ∧ RowsIn w5 mid w4.heap.size rs from ⟨HS.out.1.below b5, HS.out.2.1.below b5, HS.out.2.2.1.below b5, HS.out.2.2.2.2.1.below b5, HS.out.2.2.2.2.2.below b5⟩)
      have HB5 := Lib.hid (below_step B b5)
      have HT5 := Lib.hid (HT4.out.below b5)
      obtain ⟨i0, hi0, hz0, hz1, hz2⟩ := info_parts info_int
      have HI := Lib.hid (And.intro hi0 (And.intro hz0 (And.intro hz1 hz2)))
      clear hi0 hz0 hz1 hz2 b5 B HS
      go_loopw [11] (fun i wr => ∃ k : Nat, 1 ≤ k ∧ k ≤ n5 + 1 ∧ i = .int .i64 k ∧ Below w5.heap.size w5 wr) (fun i _ => n5 + 1 - (intOf i).toNat)
      case atStart => exact ⟨1, Nat.le_refl _, by omega, rfl, Below.refl _ _⟩
      case round =>
        obtain ⟨k, hk1, hk, rfl, B6⟩ := hrel
        by_cases hlt : k < n5 + 1
        · have hkn : k ≤ n5 := by omega
          have s6 := B6.size
          have HB6 := Lib.hid B6
          clear B6
          obtain ⟨wo, hwo⟩ : ∃ wo : World, wo = wr := ⟨_, rfl⟩
          have HBo := Lib.hid (show Below w5.heap.size w5 wo by rw [hwo]; exact HB6.out)
          have so := HBo.out.size
          have HWO := Lib.hid hwo
          clear hwo
          go_wp2_with fail
          go_loopw [12, 13] (fun v i wq => ∃ (j g cO : Nat), j ≤ n3 ∧ i = .int .i64 j ∧ v = .slice (some ⟨g, 0, none⟩) (putsUpto j ds (runLinesF rooms ds).1 k).length cO ∧ wq.ownsRow wo.heap.size 3 1 (.slice (some ⟨g, 0, none⟩) (putsUpto j ds (runLinesF rooms ds).1 k).length cO) (putsUpto j ds (runLinesF rooms ds).1 k).length (ints (putsUpto j ds (runLinesF rooms ds).1 k)) ∧ Below wo.heap.size wo wq) (fun _ i _ => n3 - (intOf i).toNat)
          case atStart =>
            rw [← HWO.out]
            exact ⟨0, wo.heap.size, 0, Nat.zero_le _, rfl, rfl, row_empty (Nat.le_refl _) (heap_alloc_new _ _), below_al (Below.refl _ _) _⟩
          case round =>
            obtain ⟨j, g, cO, hj, rfl, rfl, hown, B7⟩ := hrel
            have s7 := B7.size
            have hwl : wo.heap.size = wr.heap.size ∨ True := .inr trivial
            have HOW := Lib.hid (And.intro hown B7)
            clear hown
            by_cases hjl : j < n3
            · have b57 := (by rw [HWO.out]; exact HB6.out : Below w5.heap.size w5 wo).trans (B7.mono (by have := HWO.out; subst this; exact s6))
              obtain ⟨b, off, d, hA, _, _, h3, hdk, hv0, hv1, hv2⟩ := (HS5.out.2.1.below b57).deedAt hjl
              subst hA
              obtain ⟨b', off', t, hA', _, _, h3', htk, hvt⟩ := (HS5.out.2.2.1.below b57).txtAt hjl
              subst hA'
              have HL := Lib.hid (putsUpto_succ (l := k) hdk htk)
              have hlen := putsUpto_len j ds (runLinesF rooms ds).1 k
              have j0 : (0 : Int) ≤ (j : Int) := by omega
              have j1 : (j : Int) < (n3 : Int) := by omega
              clear hdk htk b57
              generalize hU : putsUpto j ds (runLinesF rooms ds).1 k = U at *
              have HU := Lib.hid hU
              clear hU
              by_cases hdl : d.a = (k : Int)
              · cases htp : (t == tPut) with
                | true =>
                  have htp' : (t == [112, 117, 116]) = true := htp
                  rw [htp] at HL
                  have hL' := HL.out
                  simp only [hdl, decide_true, Bool.and_self, if_true] at hL'
                  have HL2 := Lib.hid hL'
                  clear hL' htp
                  obtain ⟨hi0, hz0, hz1, hz2⟩ := HI.out
                  have HH := Lib.hid hi0
                  clear hi0
                  go_wp2_with (at_builtin; refine wpList_append_lies _ rfl (.tmp 110) (.tmp 116) 22 rfl wo.heap.size 3 i0 (.int .i64 0) 1 8 Tryd.underlying22 HH.out hz0 hz1 hz2 rfl (by decide) (.slice (some ⟨g, 0, none⟩) U.length cO) U.length _ rfl (row_below' HOW.out.1 (below_al (Below.refl _ _) _)) ⟨_, 0, none⟩ 1 1 [.int .i64 d.b] rfl rfl (cell_one_new _ _ _) (by simp [Value.oneCell']) (by decide) (by unfold maxLen; omega) (by omega) (by simp; omega) _ rfl ?_; intro g2 c2n w8 hown2 hgr2 hat2 hlt2; have HO2 := Lib.hid hown2; have HG2 := Lib.hid hgr2; clear hown2 hgr2 hat2)
                  go_roundw
                  case rel =>
                    refine ⟨j + 1, g2, c2n, by omega, by go_num, by rw [HL2.out]; simp, ?_, ?_⟩
                    · rw [HL2.out]; simpa [ints] using HO2.out
                    · exact (below_al B7 _).trans (row_below HOW.out.1 HG2.out (by simp; omega))
                  case measure => simp [intOf]; omega
                | false =>
                  have htp' : (t == [112, 117, 116]) = false := htp
                  rw [htp] at HL
                  have hL' := HL.out
                  simp only [Bool.and_false, Bool.false_eq_true, if_false, List.append_nil] at hL'
                  have HL2 := Lib.hid hL'
                  clear hL' htp
                  go_wp2
                  go_roundw
                  case rel => exact ⟨j + 1, g, cO, by omega, by go_num, by rw [HL2.out], by rw [HL2.out]; exact HOW.out.1, HOW.out.2⟩
                  case measure => simp [intOf]; omega
              · have hL' := HL.out
                simp only [hdl, decide_false, Bool.false_and, Bool.false_eq_true, if_false, List.append_nil] at hL'
                have HL2 := Lib.hid hL'
                clear hL'
                go_wp2
                go_roundw
                case rel => exact ⟨j + 1, g, cO, by omega, by go_num, by rw [HL2.out], by rw [HL2.out]; exact HOW.out.1, HOW.out.2⟩
                case measure => simp [intOf]; omega
            · have ej : j = n3 := by omega
              have hlen := putsUpto_len j ds (runLinesF rooms ds).1 k
              have b57 := HBo.out.trans (B7.mono so)
              have hU0 : putsUpto j ds (runLinesF rooms ds).1 k = putsUpto ds.length ds (runF rooms ds).2 k := by rw [ej, HD.out.2.1, HX.out.2.2.1]
              generalize putsUpto j ds (runLinesF rooms ds).1 k = U at *
              have HU := Lib.hid (And.intro hU0 ej)
              have k1 : (1 : Int) ≤ (k : Int) := by omega
              have k2 : (k : Int) ≤ (n5 : Int) := by omega
              have hj60 : j ≤ 60 := by omega
              clear hU0 ej
              go_wp2_with fail
              refine (impl_TakenFrom _ _ _ _ _ _ _ _ _ _ rooms ds (k : Int) _ (HS5.out.1.below b57) (HS5.out.2.1.below b57) (by omega) (by omega) (HT5.out.below b57)).mono ?_
              rintro e w8 ⟨A6, n6, c6, rfl, o6, b8⟩
              have hrl : rooms.length = n5 := HX.out.2.1
              have hin : inB (k : Int) 1 rooms.length = true := by rw [hrl]; simp [inB]; omega
              have hlen2 := (runF_len rooms ds).1
              obtain ⟨l, hl⟩ : ∃ l, (runF rooms ds).1[k]? = some l := ⟨_, List.getElem?_eq_getElem (by omega)⟩
              have hT : takenF rooms ds (k : Int) = (l.taken, true) := by
                unfold takenF; rw [HD.out.1, hin]
                simp only [Bool.and_self, if_true, Int.toNat_natCast]
                rw [List.getD_eq_getElem?_getD, hl]; rfl
              rw [hT] at o6
              have hT2 : (takenF rooms ds (k : Int)).2 = true := by rw [hT]
              rw [hT2]
              have hinv := run_inv HD.out.1 ds.length (Nat.le_refl _) k l hk1 (by rw [List.take_length]; exact hl)
              obtain ⟨i, hki⟩ : ∃ i, k = i + 1 := ⟨k - 1, by omega⟩
              have hroom := room_at (show (runF rooms ds).1[i + 1]? = some l by rw [← hki]; exact hl)
              obtain ⟨r, hr⟩ : ∃ r, rs[i]? = some r := ⟨_, List.getElem?_eq_getElem (by have := HX.out.2.2.2.2.2; omega)⟩
              have hrx : r.xs = l.held := by
                have e := congrArg (fun x => x[i]?) (HX.out.1.trans HD.out.2.2)
                simp only [List.getElem?_map, List.getElem?_drop, hr, Nat.add_comm 1 i, ← hki, hl, Option.map_some] at e
                injection e
              have B58 := b57.trans (b8.mono (by omega))
              have z8 := B58.size
              have hrow := ((HS5.out.2.2.2.2.own r (List.mem_of_getElem? hr)).slc).below B58
              rw [hrx] at hrow
              obtain ⟨b9, off9, v9, e9, _, _, z9', hv9, ec9⟩ := (HS5.out.1.below B58).cellAt (show i < n5 by omega)
              have hv9' : v9 = l.room := by rw [hroom] at hv9; injection hv9 with hv9; exact hv9.symm
              subst e9 hv9'
              obtain ⟨b7, off7, e7, _, _, z7, h7⟩ := (HS5.out.2.2.2.1.below B58).at_ (show 0 < n5 by omega)
              subst e7
              have ec7 := h7 i (.slice r.A r.n r.c) (by rw [List.getElem?_map, hr]; rfl)
              have hn6 : l.taken.length = n6 := o6.slc.length
              have hnr : l.held.length = r.n := hrow.length
              have hputs := row_slc HOW.out.1 (by decide)
              have HV := Lib.hid (And.intro hinv.1 (And.intro hn6 hnr))
              have hle9 : (r.n : Int) ≤ l.room := by have := hinv.2.1; omega
              have hr8 : l.room ≤ 8 := hinv.2.2
              have hrn : r.n ≤ 8 := by omega
              have hn6' : n6 ≤ 60 := by
                have e := congrArg List.length hinv.1
                rw [List.length_append] at e
                have := putsUpto_len ds.length ds (runF rooms ds).2 k
                have := HX.out.2.2.1
                have := HU.out.2
                omega
              have HVU := Lib.hid (show ((l.taken ++ l.held) == U) = true by rw [beq_iff_eq, hinv.1, HU.out.1])
              have HC7 := Lib.hid ec7
              have HC9 := Lib.hid ec9
              have HO := Lib.hid (And.intro o6.slc (And.intro hrow (And.intro (hputs.below b8) B58)))
              have i0' : (0 : Int) ≤ (k : Int) - 1 := by omega
              have i1' : (k : Int) - 1 < (n5 : Int) := by omega
              have i2' : ((k : Int) - 1).toNat = i := by omega
              have i3' : IntKind.i64.wrap ((k : Int) - 1) = (k : Int) - 1 := IntWalk.i64_in _ (by omega)
              obtain ⟨hi0, hz0, hz1, hz2⟩ := HI.out
              have HH := Lib.hid hi0
              clear hi0 hl hT hT2 hinv hroom hr hrx hrow hv9 h7 hn6 hnr hputs o6 b8 B58 b57 hin hrl hlen2
              have HW := Lib.hid s6
              have hgt : decide (l.room < (r.n : Int)) = false := by simp; omega
              have hz8 := Lib.hid z8
              have HKI := Lib.hid hki
              clear hle9 hki
              go_upto_region 19 with fail
              go_region_held3 (fun W => W.cell? ⟨b7, off7 + i, none⟩ = some (.slice r.A r.n r.c) ∧ W.cell? ⟨b9, off9 + i, none⟩ = some (.int .i64 l.room) ∧ Below w8.heap.size w8 W)
                ((refine hb2_to z7 z9' HC7.out HC9.out ?_; (repeat' (first | with_reducible assumption | with_reducible exact hb2 (by assumption) | with_reducible exact Below.refl _ _ | with_reducible apply below_al | with_reducible apply below_drew)); done))
                (first
                  | (refine step_apps _ rfl (.tmp 128) (.tmp 129) 22 rfl w8.heap.size 3 i0 (.int .i64 0) 1 8 Tryd.underlying22 HH.out hz0 hz1 hz2 rfl (by decide) _ 0 0 [] rfl (row_empty ?c1 ?c2) A6 n6 c6 _ _ (ints l.taken) rfl (HO.out.1.below ?c3) (ints_one _) ?c5 ?c6 ?c7 ?_; (case c1 => first | omega | (simp; done) | (simp; omega)); (case c2 => ((try with_reducible apply blk_drew); (first | with_reducible assumption | (with_reducible refine heap_new' _ _ ?_; simp) | (with_reducible refine blk_alloc ?_ _; first | with_reducible assumption | (with_reducible refine heap_new' _ _ ?_; simp)) | (with_reducible refine blk_alloc ?_ _; with_reducible refine blk_alloc ?_ _; first | with_reducible assumption | (with_reducible refine heap_new' _ _ ?_; simp)) | (with_reducible refine blk_alloc ?_ _; with_reducible refine blk_alloc ?_ _; with_reducible refine blk_alloc ?_ _; first | with_reducible assumption | (with_reducible refine heap_new' _ _ ?_; simp))))); (case c3 => (repeat' (first | with_reducible assumption | with_reducible exact hb2 (by assumption) | with_reducible exact Below.refl _ _ | with_reducible apply below_al | with_reducible apply below_drew))); (case c5 => unfold maxLen; omega); (case c6 => omega); (case c7 => first | omega | (simp; done) | (simp; omega)); intro g1 c1n w9 hown1 hgr1 B1; rw [Nat.zero_add]; simp only [Nat.zero_add, List.nil_append] at hown1; have HO1 := Lib.hid hown1; have BW : Below w8.heap.size w8 w9 := Below.trans (by (repeat' (first | with_reducible assumption | with_reducible exact hb2 (by assumption) | with_reducible exact Below.refl _ _ | with_reducible apply below_al | with_reducible apply below_drew))) B1; have z9 := BW.size; clear hown1 hgr1 B1)
                  | (refine step_apps _ rfl (.tmp 130) (.tmp 135) 22 rfl w8.heap.size 3 i0 (.int .i64 0) 1 8 Tryd.underlying22 HH.out hz0 hz1 hz2 rfl (by decide) g1 n6 c1n (ints l.taken) rfl HO1.out r.A r.n r.c _ _ (ints l.held) rfl (HO.out.2.1.below BW) (ints_one _) ?c5 ?c6 ?c7 ?_; (case c5 => unfold maxLen; omega); (case c6 => omega); (case c7 => first | omega | (simp; done) | (simp; omega)); intro g2 c2n w10 hown2 hgr2 B2; have HO2 := Lib.hid hown2; have BW2 : Below w8.heap.size w8 w10 := BW.trans B2; have z10 := BW2.size; clear hown2 hgr2 B2)
                  | (go_at_call 32; refine (cbSame_u (xs := l.taken ++ l.held) (ys := U) (by have := row_slc HO2.out (by decide); rwa [← ints_app] at this) (HO.out.2.2.1.below BW2) ?c5 ?c6).mono ?_; (case c5 => omega); (case c6 => omega); rintro e w11 ⟨rfl, b11⟩; rw [HVU.out]; have BW3 : Below w8.heap.size w8 w11 := BW2.trans (b11.mono z10); clear b11))
              all_goals
                go_wp2
                go_roundw
                case rel => exact ⟨k + 1, by omega, by omega, by go_num, (HO.out.2.2.2).trans ((by assumption : Below w8.heap.size w8 w11).mono hz8.out)⟩
                case measure => simp [intOf]; omega
        · have e : k = n5 + 1 := by omega
          subst e
          go_wp2
          go_ret
          exact ⟨rfl, below_step HB5.out B6⟩
end Go.Proofs.YtojnnemodikpeaaDoor
