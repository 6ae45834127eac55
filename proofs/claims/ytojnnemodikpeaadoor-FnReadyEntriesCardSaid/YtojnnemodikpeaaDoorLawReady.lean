/-
  The walk of the law FnReadyEntries.
-/
import Derived.Test.YtojnnemodikpeaaDoorDrawP
import Derived.Test.YtojnnemodikpeaaDoorReadyM
import Derived.Test.YtojnnemodikpeaaDoorAppS
import Derived.Test.YtojnnemodikpeaaDoorCbT
import Derived.Test.YtojnnemodikpeaaDoorLens2
import Derived.Deep.RegionHeld3
import Derived.Deep.CutRange
namespace Go.Proofs.YtojnnemodikpeaaDoor
open Go.RowKit Go.Conc
set_option linter.unusedVariables false
theorem held3c {W0 W' : World} {a1 a2 a3 : Addr} {v1 v2 v3 : Value} (z1 : a1.block < W0.heap.size) (z2 : a2.block < W0.heap.size) (z3 : a3.block < W0.heap.size) (h1 : W0.cell? a1 = some v1) (h2 : W0.cell? a2 = some v2) (h3 : W0.cell? a3 = some v3) (hb : Below W0.heap.size W0 W') : W'.cell? a1 = some v1 ∧ W'.cell? a2 = some v2 ∧ W'.cell? a3 = some v3 ∧ Below W0.heap.size W0 W' :=
  ⟨(World.cell?_of_block (hb.block _ z1)).trans h1, (World.cell?_of_block (hb.block _ z2)).trans h2, (World.cell?_of_block (hb.block _ z3)).trans h3, hb⟩
theorem held3b {W0 W : World} {a1 a2 a3 : Addr} {v1 v2 v3 : Value} (h : W.cell? a1 = some v1 ∧ W.cell? a2 = some v2 ∧ W.cell? a3 = some v3 ∧ Below W0.heap.size W0 W) : Below W0.heap.size W0 W := h.2.2.2
theorem deeds_cell (ds : List DeedD) : ∀ u ∈ deeds ds, u.oneCell' = true := by
  intro u hu
  unfold deeds at hu
  obtain ⟨d, _, hd⟩ := List.mem_flatMap.1 hu
  simp only [DeedD.cells, List.mem_cons, List.not_mem_nil, or_false] at hd
  rcases hd with rfl | rfl | rfl <;> rfl
theorem entB_of {lines : Int} {d : DeedD} (h : entB lines d = true) : deedB lines d = true ∧ (d.act.toList = putA ∨ d.act.toList = takeA) := by
  unfold entB at h
  simp only [Bool.and_eq_true, Bool.or_eq_true, beq_iff_eq] at h
  exact ⟨h.1.2, h.2⟩
theorem readyEF_of {rooms : List Int} {ds ts : List DeedD} (h : (readyEF rooms ds ts).2 = true) : deedsB rooms ds = true ∧ tableB ts rooms.length = true ∧ (∀ e ∈ ts, deedB rooms.length e = true ∧ (e.act.toList = putA ∨ e.act.toList = takeA)) ∧
    (readyEF rooms ds ts).1 = idxs (fun i => readyF ((runF rooms ds).1.getD (ts.getD i d00).a.toNat l00) (ts.getD i d00)) ts.length := by
  unfold readyEF at h ⊢
  cases hc : choiceB rooms ds ts with
  | false => rw [hc] at h; cases h
  | true =>
    have hc' := hc
    unfold choiceB at hc'
    simp only [Bool.and_eq_true] at hc'
    refine ⟨hc'.1, hc'.2, fun e he => ?_, rfl⟩
    have := hc'.2
    unfold tableB at this
    simp only [Bool.and_eq_true, List.all_eq_true] at this
    exact entB_of (this.1.1 e he)
set_option maxRecDepth 20000 in
set_option maxHeartbeats 8000000 in
theorem walk_FnReadyEntries (A : Option Addr) (n c : Nat) (w : World) (h : Code w A n c) (ht : TabW w) :
    Calls Tryd.prog 15 #[.slice A n c] w fun e w' => e = .returned (.bool true) ∧ Below w.heap.size w w' := by
  have HT := Lib.hid ht
  have hcap := h.cap
  have hle := h.le
  unfold maxLen at hcap
  clear ht
  by_cases e0 : 1048576 < n
  · clear h
    go_enter Tryd.func15, Tryd.ntmps15
    go_wp2
    go_ret
    exact ⟨rfl, Below.refl _ _⟩
  · go_enter Tryd.func15, Tryd.ntmps15
    go_wp2_with fail
    refine (DrawReadyEntries_any A n c w h).mono ?_
    rintro e w1 ⟨A1, n1, c1, rooms, A2, n2, c2, ds, A3, n3, c3, ts, rfl, h1, h2, h3, hn1, hn2, hn3, b1⟩
    have s1 := b1.size
    have B := b1
    have HT1 := Lib.hid (HT.out.below b1)
    clear h b1
    generalize hK : (readyEF rooms ds ts).2 = tt
    have HTT := Lib.hid hK
    clear hK
    go_wp2_with fail
    refine (impl_ReadyEntries _ _ _ _ _ _ _ _ _ _ _ _ _ _ _ rooms ds ts _ h1 h2 h3 (by omega) (by omega) (by omega) HT1.out).mono ?_
    rintro e w2 ⟨A6, n6, c6, rfl, h6, b2⟩
    rw [HTT.out]
    have s2 := b2.size
    replace h1 := h1.below b2
    replace h2 := h2.below b2
    replace h3 := h3.below b2
    replace B := below_step B b2
    have HT2 := Lib.hid (HT1.out.below b2)
    clear b2
    go_wp2_with fail
    refine (spec_ReadyEntries _ _ _ _ _ _ _ _ _ _ _ _ _ _ _ rooms ds ts _ h1 h2 h3 (by omega) (by omega) (by omega)).mono ?_
    rintro e w3 ⟨A7, n7, c7, rfl, h7, b3⟩
    rw [HTT.out]
    have s3 := b3.size
    replace h1 := h1.below b3
    replace h2 := h2.below b3
    replace h3 := h3.below b3
    have h6s := h6.slc.below b3
    replace B := below_step B b3
    have HT3 := Lib.hid (HT2.out.below b3)
    clear b3
    have hn6 := readyEF_len2 rooms ds ts
    have hl6 : (readyEF rooms ds ts).1.length = n6 := h6s.length
    have hl7 : (readyEF rooms ds ts).1.length = n7 := h7.slc.length
    have hn6' : n6 ≤ 1048576 := by omega
    have hn7' : n7 ≤ 1048576 := by omega
    have hl1 := h1.length
    have hl2 := h2.deedLen
    have hl3 := h3.deedLen
    have HX := Lib.hid (And.intro hl1 (And.intro hl2 (And.intro hl3 hl6)))
    have HEQ := Lib.hid (beq_self_eq_true (readyEF rooms ds ts).1)
    have H67 := Lib.hid (And.intro h6s h7.slc)
    clear hn6 hl6 hl7 hl1 hl2 hl3 h6 h6s h7
    cases tt with
    | false =>
      have once : True := trivial
      go_wp2_with (go_at_call 32; clear once; refine (cbSame_u H67.out.1 H67.out.2 (by omega) (by omega)).mono ?_; rintro e w4 ⟨rfl, b4⟩; rw [HEQ.out])
      have once : True := trivial
      go_wp2_with (go_at_call 32; clear once; refine (cbSame_u (H67.out.1.below b4) (H67.out.2.below b4) (by omega) (by omega)).mono ?_; rintro e w5 ⟨rfl, b5⟩; rw [HEQ.out])
      go_ret
      exact ⟨rfl, below_step (below_step B b4) b5⟩
    | true =>
      obtain ⟨hdB, hT, hE, hI⟩ := readyEF_of HTT.out
      have HD := Lib.hid (And.intro hdB (And.intro hT (And.intro hE hI)))
      have hn20 : ¬ 60 ≤ (n2 : Int) := by omega
      have once : True := trivial
      go_wp2_with (go_at_call 32; clear once; refine (cbSame_u H67.out.1 H67.out.2 (by omega) (by omega)).mono ?_; rintro e w5 ⟨rfl, b5⟩; rw [HEQ.out])
      have s5 := b5.size
      have HS := Lib.hid (show Slc w5 w.heap.size w1.heap.size 1 A1 n1 c1 (ints rooms) ∧ Slc w5 w.heap.size w1.heap.size 3 A2 n2 c2 (deeds ds) ∧ Slc w5 w.heap.size w1.heap.size 3 A3 n3 c3 (deeds ts) ∧ Slc w5 w1.heap.size w2.heap.size 1 A6 n6 c6 (ints (readyEF rooms ds ts).1) from ⟨h1.below b5, h2.below b5, h3.below b5, H67.out.1.below b5⟩)
      have HB := Lib.hid (below_step B b5)
      have HT5 := Lib.hid (HT3.out.below b5)
      obtain ⟨i0, hi0, hz0, hz1, hz2⟩ := info_parts info_deed
      have HI := Lib.hid (And.intro hi0 (And.intro hz0 (And.intro hz1 hz2)))
      clear hdB hT hE hI hi0 hz0 hz1 hz2 b5 B h1 h2 h3 H67
      go_loopw [10, 11] (fun p i wr => ∃ (j k : Nat), j ≤ n3 ∧ i = .int .i64 j ∧ p = .int .i64 k ∧ k = (idxs (fun i => readyF ((runF rooms ds).1.getD (ts.getD i d00).a.toNat l00) (ts.getD i d00)) j).length ∧ Below w5.heap.size w5 wr) (fun _ i _ => n3 - (intOf i).toNat)
      case atStart => exact ⟨0, 0, Nat.zero_le _, rfl, rfl, rfl, Below.refl _ _⟩
      case round =>
        obtain ⟨j, k, hj, rfl, rfl, hk, B6⟩ := hrel
        have HK := Lib.hid hk
        have hkj : k ≤ j := by rw [hk]; exact idxs_len _ _
        have HB6 := Lib.hid B6
        have s6 := B6.size
        clear hk B6
        by_cases hjl : j < n3
        · obtain ⟨b, off, d, hA', _, _, h3, hdk, hv0, hv1, hv2⟩ := (HS.out.2.2.1.below HB6.out).deedAt hjl
          subst hA'
          have hE := HD.out.2.2.1 d (List.mem_of_getElem? hdk)
          have hst := snoc_told (e := d) HD.out.1 (by have := HX.out.2.1; omega) hE.1
          have hrt := ready_told (l := (runF rooms ds).1.getD d.a.toNat l00) (d := d) hE.2
          have hpj : readyF ((runF rooms ds).1.getD (ts.getD j d00).a.toNat l00) (ts.getD j d00) = readyF ((runF rooms ds).1.getD d.a.toNat l00) d := by rw [show ts.getD j d00 = d by rw [List.getD_eq_getElem?_getD, hdk]; rfl]
          have HQ := Lib.hid (And.intro hst (And.intro hrt (And.intro hpj hdk)))
          have HV := Lib.hid (And.intro hv0 (And.intro hv1 hv2))
          have j0' : (0 : Int) ≤ (j : Int) := by omega
          have j1 : (j : Int) < (n3 : Int) := by omega
          have hdsU := (HS.out.2.1.below HB6.out)
          have HDS := Lib.hid (And.intro (HS.out.1.below HB6.out) (And.intro hdsU (HT5.out.below HB6.out)))
          obtain ⟨hi0, hz0, hz1, hz2⟩ := HI.out
          have HH := Lib.hid hi0
          clear hE hst hrt hpj hdk hi0 hdsU
          go_upto_region 14 with fail
          go_cut [12, 13] from 69 to 82 (fun u v wc => ∃ (A11 : Option Addr) (n11 c11 lo hi : Nat), u = .slice A11 n11 c11 ∧ v = .bool (runLinesF rooms (ds ++ [d])).2 ∧ Slc wc lo hi 1 A11 n11 c11 (txts (runLinesF rooms (ds ++ [d])).1) ∧ Below wr.heap.size wr wc)
          case first =>
            go_region_held3 (fun W => W.cell? ⟨b, off + j * 3, none⟩ = some (.string d.act) ∧ W.cell? ⟨b, off + j * 3 + 1, none⟩ = some (.int .i64 d.a) ∧ W.cell? ⟨b, off + j * 3 + 2, none⟩ = some (.int .i64 d.b) ∧ Below wr.heap.size wr W)
              ((refine held3c h3 h3 h3 HV.out.1 HV.out.2.1 HV.out.2.2 ?_; (repeat' (first | with_reducible assumption | with_reducible exact held3b (by assumption) | with_reducible exact Below.refl _ _ | with_reducible apply below_al | with_reducible apply below_drew)); done))
              (first
                | (refine step_apps _ rfl (.tmp 71) (.tmp 72) 28 rfl wr.heap.size 46 i0 (.agg #[.string ⟨#[]⟩, .int .i64 0, .int .i64 0]) 3 32 Tryd.underlying28 HH.out hz0 hz1 hz2 rfl (by decide) _ 0 0 [] rfl (row_empty ?c1 ?c2) A2 n2 c2 _ _ (deeds ds) rfl (HDS.out.2.1.below ?c3) (deeds_cell _) ?c5 ?c6 ?c7 ?_; (case c1 => first | omega | (simp; done) | (simp; omega)); (case c2 => ((try with_reducible apply blk_drew); (first | with_reducible assumption | (with_reducible refine heap_new' _ _ ?_; simp) | (with_reducible refine blk_alloc ?_ _; first | with_reducible assumption | (with_reducible refine heap_new' _ _ ?_; simp)) | (with_reducible refine blk_alloc ?_ _; with_reducible refine blk_alloc ?_ _; first | with_reducible assumption | (with_reducible refine heap_new' _ _ ?_; simp)) | (with_reducible refine blk_alloc ?_ _; with_reducible refine blk_alloc ?_ _; with_reducible refine blk_alloc ?_ _; first | with_reducible assumption | (with_reducible refine heap_new' _ _ ?_; simp))))); (case c3 => (repeat' (first | with_reducible assumption | with_reducible exact held3b (by assumption) | with_reducible exact Below.refl _ _ | with_reducible apply below_al | with_reducible apply below_drew))); (case c5 => unfold maxLen; omega); (case c6 => omega); (case c7 => first | omega | (simp; done) | (simp; omega)); intro g1 c1n w9 hown1 hgr1 B1; rw [Nat.zero_add]; simp only [Nat.zero_add, List.nil_append] at hown1; have HO1 := Lib.hid hown1; have HG1 := Lib.hid hgr1; have BW : Below wr.heap.size wr w9 := Below.trans (by (repeat' (first | with_reducible assumption | with_reducible exact held3b (by assumption) | with_reducible exact Below.refl _ _ | with_reducible apply below_al | with_reducible apply below_drew))) B1; have z9 := BW.size; clear hown1 hgr1 B1)
                | (refine step_app _ rfl (.tmp 73) (.tmp 78) 28 rfl wr.heap.size 46 i0 (.agg #[.string ⟨#[]⟩, .int .i64 0, .int .i64 0]) 3 32 Tryd.underlying28 HH.out hz0 hz1 hz2 rfl (by decide) (.slice (some ⟨g1, 0, none⟩) n2 c1n) n2 (deeds ds) rfl ?c1 (by simp) ⟨_, 0, none⟩ 1 1 [.string d.act, .int .i64 d.a, .int .i64 d.b] rfl rfl (World.news_of_block (cs := #[.string d.act, .int .i64 d.a, .int .i64 d.b]) (t := 46) (fr := (0, 0)) ?c2) (by simp [Value.oneCell']) ?c5 ?c6 ?c7 ?_; (case c1 => first | exact HO1.out | exact row_keep HO1.out (fun b hb => Below.heap_alloc _ _ b hb)); (case c2 => first | exact heap_alloc_new _ _ | exact (HG1.out.block _ (by first | (simp; done) | (simp; omega)) (by first | (simp [Value.ownBlock]; done) | (simp [Value.ownBlock]; omega))).trans (by ((try with_reducible apply blk_drew); (first | with_reducible assumption | (with_reducible refine heap_new' _ _ ?_; simp) | (with_reducible refine blk_alloc ?_ _; first | with_reducible assumption | (with_reducible refine heap_new' _ _ ?_; simp)) | (with_reducible refine blk_alloc ?_ _; with_reducible refine blk_alloc ?_ _; first | with_reducible assumption | (with_reducible refine heap_new' _ _ ?_; simp)) | (with_reducible refine blk_alloc ?_ _; with_reducible refine blk_alloc ?_ _; with_reducible refine blk_alloc ?_ _; first | with_reducible assumption | (with_reducible refine heap_new' _ _ ?_; simp)))))); (case c5 => unfold maxLen; omega); (case c6 => omega); (case c7 => first | omega | (simp; done) | (simp; omega)); intro g2 c2n w10 hown2 hgr2 B2; have HO2 := Lib.hid hown2; have BW2 : Below wr.heap.size wr w10 := Below.trans (by first | exact BW | exact below_al BW _) B2; have z10 := BW2.size; clear hown2 hgr2 B2)
                | (go_at_call 28; refine (impl_RunLines _ _ _ _ _ _ _ _ _ _ rooms (ds ++ [d]) _ (HDS.out.1.below BW2) (by have := row_slc HO2.out (by decide); rwa [← deeds_snoc'] at this) (by omega) (by omega) (HDS.out.2.2.below BW2)).mono ?_; rintro e w11 ⟨A11, n11, c11, rfl, h11, b11⟩; have BW3 : Below wr.heap.size wr w11 := BW2.trans (b11.mono z10); clear b11))
            all_goals
              go_wp2_with fail
              go_meet
              exact ⟨A11, n11, c11, _, _, rfl, rfl, h11.slc, BW3⟩
          case rest =>
            obtain ⟨A11, n11, c11, lo, hi, rfl, rfl, h11, b11⟩ := hcut
            obtain ⟨t, ht⟩ : ∃ t, t = (doneF ((runF rooms ds).1.getD d.a.toNat l00) d).2 := ⟨_, rfl⟩
            have hst : runLinesF rooms (ds ++ [d]) = ((runF rooms ds).2 ++ [t], true) := by rw [ht]; exact HQ.out.1
            have his : isT t d.act.toList = readyF ((runF rooms ds).1.getD d.a.toNat l00) d := by rw [ht]; exact HQ.out.2.1
            have hpj := HQ.out.2.2.1
            rw [hst] at h11
            have hst2 : (runLinesF rooms (ds ++ [d])).2 = true := by rw [hst]
            rw [hst2]
            have hn11 : n11 = n2 + 1 := by
              have := h11.txtLen
              rw [List.length_append, (runF_len rooms ds).2] at this
              have := HX.out.2.1
              simp at *; omega
            obtain ⟨b8, off8, t', e8, _, _, z8, htk, hvt⟩ := h11.txtAt (show n2 < n11 by omega)
            subst e8
            have htt : t' = t := by
              rw [List.getElem?_append_right (by rw [(runF_len rooms ds).2]; have := HX.out.2.1; omega), (runF_len rooms ds).2, HX.out.2.1, Nat.sub_self] at htk
              injection htk with htk; exact htk.symm
            subst htt
            have e1 := (World.cell?_of_block (b11.block _ h3)).trans HV.out.1
            have HN := Lib.hid (And.intro hn11 (And.intro his hpj))
            have k1 : (1 : Int) ≤ (n11 : Int) := by omega
            have k2 : 1 ≤ n11 := by omega
            have i0' : (0 : Int) ≤ (n11 : Int) - 1 := by omega
            have i1' : (n11 : Int) - 1 < (n11 : Int) := by omega
            have i2' : ((n11 : Int) - 1).toNat = n2 := by omega
            have i3' : IntKind.i64.wrap ((n11 : Int) - 1) = (n11 : Int) - 1 := IntWalk.i64_in _ (by omega)
            have HB11 := Lib.hid b11
            clear ht hst his hpj hst2 hn11 htk h11 b11 h3
            go_upto_region 16 with fail
            go_cut [15] from 89 to 110 (fun v wc => v = .bool (isT t' d.act.toList) ∧ Below wr.heap.size wr wc)
            case first =>
              cases q1 : (t' == tFull) with
              | true =>
                have q1a : (t' == [102, 117, 108, 108]) = true := q1
                have q1b : (t' != [102, 117, 108, 108]) = false := by rw [bne, q1a]; rfl
                have HTI := Lib.hid (show isT t' d.act.toList = false by unfold isT; rw [q1]; simp)
                clear q1
                go_wp2
                go_meet
                exact ⟨by rw [HTI.out], HB11.out⟩
              | false =>
                have q1a : (t' == [102, 117, 108, 108]) = false := q1
                have q1b : (t' != [102, 117, 108, 108]) = true := by rw [bne, q1a]; rfl
                cases q2 : (t' == tEmpty) with
                | true =>
                  have q2a : (t' == [101, 109, 112, 116, 121]) = true := q2
                  have q2b : (t' != [101, 109, 112, 116, 121]) = false := by rw [bne, q2a]; rfl
                  have HTI := Lib.hid (show isT t' d.act.toList = false by unfold isT; rw [q1, q2]; simp)
                  clear q1 q2
                  go_wp2
                  go_meet
                  exact ⟨by rw [HTI.out], HB11.out⟩
                | false =>
                  have q2a : (t' == [101, 109, 112, 116, 121]) = false := q2
                  have q2b : (t' != [101, 109, 112, 116, 121]) = true := by rw [bne, q2a]; rfl
                  cases q3 : (t' == tNever) with
                  | true =>
                    have q3a : (t' == [110, 101, 118, 101, 114]) = true := q3
                    have q3b : (t' != [110, 101, 118, 101, 114]) = false := by rw [bne, q3a]; rfl
                    have HTI := Lib.hid (show isT t' d.act.toList = false by unfold isT; rw [q1, q2, q3]; simp)
                    clear q1 q2 q3
                    go_wp2
                    go_meet
                    exact ⟨by rw [HTI.out], HB11.out⟩
                  | false =>
                    have q3a : (t' == [110, 101, 118, 101, 114]) = false := q3
                    have q3b : (t' != [110, 101, 118, 101, 114]) = true := by rw [bne, q3a]; rfl
                    cases q4 : (t' == tEnded) with
                    | false =>
                      have q4a : (t' == [101, 110, 100, 101, 100]) = false := q4
                      have q4b : (t' != [101, 110, 100, 101, 100]) = true := by rw [bne, q4a]; rfl
                      have HTI := Lib.hid (show isT t' d.act.toList = true by unfold isT; rw [q1, q2, q3, q4]; simp)
                      clear q1 q2 q3 q4
                      go_wp2
                      go_meet
                      exact ⟨by rw [HTI.out], HB11.out⟩
                    | true =>
                      have q4a : (t' == [101, 110, 100, 101, 100]) = true := q4
                      have q4b : (t' != [101, 110, 100, 101, 100]) = false := by rw [bne, q4a]; rfl
                      cases q5 : (d.act.toList == takeA) with
                      | true =>
                        have q5a : (d.act.toList == [116, 97, 107, 101]) = true := q5
                        have HTI := Lib.hid (show isT t' d.act.toList = true by unfold isT; rw [q1, q2, q3, q4, q5]; simp)
                        clear q1 q2 q3 q4 q5
                        go_wp2
                        go_meet
                        exact ⟨by rw [HTI.out], HB11.out⟩
                      | false =>
                        have q5a : (d.act.toList == [116, 97, 107, 101]) = false := q5
                        have HTI := Lib.hid (show isT t' d.act.toList = false by unfold isT; rw [q1, q2, q3, q4, q5]; simp)
                        clear q1 q2 q3 q4 q5
                        go_wp2
                        go_meet
                        exact ⟨by rw [HTI.out], HB11.out⟩
            case rest =>
              obtain ⟨rfl, b12⟩ := hcut
              have HB12 := Lib.hid b12
              have hpt : readyF ((runF rooms ds).1.getD (ts.getD j d00).a.toNat l00) (ts.getD j d00) = isT t' d.act.toList := HN.out.2.2.trans HN.out.2.1.symm
              have HPT := Lib.hid hpt
              have hjd : j < ts.length := by have := HX.out.2.2.1; omega
              have HSU := Lib.hid (idxs_succ (fun i => readyF ((runF rooms ds).1.getD (ts.getD i d00).a.toNat l00) (ts.getD i d00)) j)
              have Bn := HB6.out.trans (b12.mono s6)
              have HBN := Lib.hid Bn
              clear e1 hvt b12 hpt Bn
              have k0' : (0 : Int) ≤ (k : Int) := by omega
              cases hz : isT t' d.act.toList with
              | true =>
                have hhit := idxs_hit (p := fun i => readyF ((runF rooms ds).1.getD (ts.getD i d00).a.toNat l00) (ts.getD i d00)) hjd (HPT.out.trans hz)
                rw [← HD.out.2.2.2, ← HK.out] at hhit
                have hkl : k < n6 := by have := (List.getElem?_eq_some_iff.1 hhit).1; have := HX.out.2.2.2; omega
                obtain ⟨b7, off7, v7, e7, _, _, z7, hv7, ec7⟩ := (HS.out.2.2.2.below HBN.out).cellAt hkl
                subst e7
                have hv7' : v7 = (j : Int) := by rw [hhit] at hv7; injection hv7 with hv7; exact hv7.symm
                subst hv7'
                have k1' : (k : Int) < (n6 : Int) := by omega
                have HZ := Lib.hid hz
                clear hhit hv7 hz
                go_wp2
                go_roundw
                case rel => exact ⟨j + 1, k + 1, by omega, by go_num, by go_num, by rw [HSU.out, HPT.out, HZ.out]; simp [HK.out], HBN.out⟩
                case measure => simp [intOf]; omega
              | false =>
                have hmiss := idxs_miss (p := fun i => readyF ((runF rooms ds).1.getD (ts.getD i d00).a.toNat l00) (ts.getD i d00)) (Nat.le_of_lt hjd) (HPT.out.trans hz)
                rw [← HD.out.2.2.2, ← HK.out] at hmiss
                have HZ := Lib.hid hz
                clear hz
                rcases hmiss with hno | ⟨x, hx, hjx⟩
                · have hkl : n6 ≤ k := by have := List.getElem?_eq_none_iff.1 hno; have := HX.out.2.2.2; omega
                  clear hno
                  go_wp2
                  go_roundw
                  case rel => exact ⟨j + 1, k, by omega, by go_num, rfl, by rw [HSU.out, HPT.out, HZ.out]; simp [HK.out], HBN.out⟩
                  case measure => simp [intOf]; omega
                · have hkl : k < n6 := by have := (List.getElem?_eq_some_iff.1 hx).1; have := HX.out.2.2.2; omega
                  obtain ⟨b7, off7, v7, e7, _, _, z7, hv7, ec7⟩ := (HS.out.2.2.2.below HBN.out).cellAt hkl
                  subst e7
                  have hv7' : v7 = x := by rw [hx] at hv7; injection hv7 with hv7; exact hv7.symm
                  subst hv7'
                  have k1' : (k : Int) < (n6 : Int) := by omega
                  have hxq : (v7 == (j : Int)) = false := by rw [beq_eq_false_iff_ne]; omega
                  clear hx hv7 hjx
                  go_wp2
                  go_roundw
                  case rel => exact ⟨j + 1, k, by omega, by go_num, rfl, by rw [HSU.out, HPT.out, HZ.out]; simp [HK.out], HBN.out⟩
                  case measure => simp [intOf]; omega
        · have ej : j = ts.length := by have := HX.out.2.2.1; omega
          have hk6 : k = n6 := by have := HX.out.2.2.2; rw [HD.out.2.2.2, ← ej, ← HK.out] at this; exact this
          have hrl : (n1 : Int) = (rooms.length : Int) := by have := HX.out.1; omega
          have HRL := Lib.hid hrl
          have hkk : ((k : Int) == (n6 : Int)) = true := by rw [beq_iff_eq, hk6]
          have HJ6 := Lib.hid (And.intro ej hk6)
          have hT1 : tableB ts (n1 : Int) = true := by rw [hrl]; exact HD.out.2.1
          have HT1' := Lib.hid hT1
          clear ej hk6 hrl hT1
          have once : True := trivial
          go_wp2_with (first
            | (go_at_call 54; clear once; refine (impl_TableValid _ _ _ _ _ ts _ _ (HS.out.2.2.1.below HB6.out) (by omega)).mono ?_; rintro e w7 ⟨rfl, b7⟩; rw [HT1'.out]; have twice : True := trivial)
            | (go_at_call 54; clear twice; refine (impl_TableValid _ _ _ _ _ ts _ _ ((HS.out.2.2.1.below HB6.out).below b7) (by omega)).mono ?_; rintro e w8 ⟨rfl, b8⟩; rw [HT1'.out])
            | (go_at_call 55; refine (spec_TableValid _ _ _ _ _ ts _ _ (((HS.out.2.2.1.below HB6.out).below b7).below b8) (by omega)).mono ?_; rintro e w9 ⟨rfl, b9⟩; rw [HT1'.out]))
          go_ret
          exact ⟨rfl, below_step (below_step (below_step (below_step HB.out HB6.out) b7) b8) b9⟩
end Go.Proofs.YtojnnemodikpeaaDoor
