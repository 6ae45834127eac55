/-
  l1Run, walked.
-/
import Derived.Test.YtojnnemodikpeaaDoorRunS
namespace Go.Proofs.YtojnnemodikpeaaDoor
open Go.RowKit
set_option linter.unusedVariables false
def RunSays (w : World) (rooms : List Int) (ds : List DeedD) (e : Ending) (w' : World) : Prop :=
  ∃ gl cl go co vs, e = .returned (.tuple #[.slice (some ⟨gl, 0, none⟩) (rooms.length + 1) cl, .slice (some ⟨go, 0, none⟩) ds.length co]) ∧ RunSt w w' gl cl go co (rooms.length + 1) ds.length vs (runF rooms ds)
theorem lns_len {w : World} {base g c N : Nat} {vs : List LnV} (h : w.ownsRow base 71 4 (.slice (some ⟨g, 0, none⟩) N c) N (lnCells vs)) : vs.length = N := by
  have := h.1; rw [lnCells_len] at this; omega
set_option maxRecDepth 20000 in
set_option maxHeartbeats 4000000 in
theorem l1Run_any (lo hi n c lo2 hi2 m c2 : Nat) (A A2 : Option Addr) (rooms : List Int) (ds : List DeedD) (w : World) (h : Slc w lo hi 1 A n c (ints rooms)) (h2 : Slc w lo2 hi2 3 A2 m c2 (deeds ds)) (hd : deedsB rooms ds = true) :
    Calls Tryd.prog 60 #[.slice A n c, .slice A2 m c2] w (RunSays w rooms ds) := by
  obtain ⟨⟨r1, r6⟩, hr, d60, hdp⟩ := deedsB_of hd
  have hln := h.length
  have hlm := h2.deedLen
  have HDP := Lib.hid hdp
  have HSM := Lib.hid (runF_small hdp)
  have HLM := Lib.hid hlm
  have hm60 : m ≤ 60 := by omega
  obtain ⟨N, hN⟩ : ∃ N, N = rooms.length + 1 := ⟨_, rfl⟩
  have HN := Lib.hid hN
  have HNN := Lib.hid hln
  have hn6 : n ≤ 6 := by omega
  clear hdp hr hd hN hln hlm
  obtain ⟨i0, hi0, hz0, hz1, hz2⟩ := info_parts info_string
  have HI := Lib.hid (And.intro hi0 (And.intro hz0 (And.intro hz1 hz2)))
  clear hi0 hz0 hz1 hz2
  go_enter Tryd.func60, Tryd.ntmps60
  go_wp2_with fail
  refine (l1Open_any lo hi n c A rooms _ h hn6).mono ?_
  rintro e w1 ⟨gl, cl, vs0, rfl, hown0, hopen, B0⟩
  rw [← HN.out] at hown0 ⊢
  have HO0 := Lib.hid hown0
  have HOP := Lib.hid hopen
  have HB0 := Lib.hid B0
  have z0 := B0.size
  clear hown0 hopen B0 h
  go_wp2_with fail
  go_loopw [7, 8, 9, 10] (fun v i _ _ wr => ∃ (k go co : Nat) (vs : List LnV), k ≤ m ∧ i = .int .i64 k ∧ v = .slice (some ⟨go, 0, none⟩) k co ∧ RunSt w wr gl cl go co N k vs (runF rooms (ds.take k))) (fun _ i _ _ _ => m - (intOf i).toNat)
  case atStart =>
    have hgl := (row_blk HO0.out)
    obtain ⟨hgl1, cs, hgl2, _⟩ := hgl
    have hgz := blk_lt hgl2
    refine ⟨0, w1.heap.size, 0, vs0, Nat.zero_le _, rfl, rfl, ?_⟩
    have hb := below_al (o := .cells #[] 9) (Below.refl w1.heap.size w1)
    exact ⟨HB0.out.trans (hb.mono z0), row_empty (by omega) (heap_alloc_new _ _), by omega, row_below' HO0.out (below_al (Below.refl _ _) _), by rw [HN.out]; simp [runF, openF], HOP.out.lns _ _⟩
  case round =>
    obtain ⟨k, go, co, vs, hk, rfl, rfl, St⟩ := hrel
    by_cases hlt : k < m
    · obtain ⟨b, off, d, hA, _, _, h3, hxk, hv0, hv1, hv2⟩ := (h2.below St.B).deedAt hlt
      subst hA
      obtain ⟨p1, p2, p3, p4, p5, p6⟩ := HDP.out d (List.mem_of_getElem? hxk)
      obtain ⟨s, x, y⟩ := d
      obtain ⟨L, hL⟩ := Int.eq_ofNat_of_zero_le p2
      have hL' : x = (L : Int) := hL
      subst hL'
      have hLN : L < N := by have := HN.out; simp only at p3; omega
      have hvl := lns_len St.lines
      obtain ⟨v, hv⟩ : ∃ v, vs[L]? = some v := ⟨_, List.getElem?_eq_getElem (by omega)⟩
      obtain ⟨l, hl⟩ : ∃ l, (runF rooms (ds.take k)).1[L]? = some l := ⟨_, List.getElem?_eq_getElem (by rw [St.len]; exact hLN)⟩
      obtain ⟨ok, okf⟩ := St.lns L v l hv hl
      obtain ⟨g0, g1, g2, g3⟩ := lnCells_get hv
      have c0 := row_cells St.lines g0
      have c1 := row_cells St.lines g1
      have c2' := row_cells St.lines g2
      have c3 := row_cells St.lines g3
      obtain ⟨s1, s2, s3⟩ := HSM.out k l (List.mem_of_getElem? hl)
      have sm : LnSmall l := ⟨by omega, by omega, s3⟩
      have S0 := And.intro hv0 (And.intro hv1 (And.intro hv2 (And.intro c0 (And.intro c1 (And.intro c2' (And.intro c3 (Below.refl wr.heap.size wr)))))))
      simp only [Nat.add_zero] at S0
      have HX := Lib.hid hxk
      have HP := Lib.hid (show deedP rooms.length ⟨s, (L : Int), y⟩ from ⟨p1, p2, p3, p4, p5, p6⟩)
      have HST := Lib.hid St
      have HOK := Lib.hid (And.intro ok okf)
      have HVL := Lib.hid (And.intro hv hl)
      have HSM2 := Lib.hid sm
      have zgo := blk_lt (row_blk St.out).2.choose_spec.1
      have zgl := blk_lt (row_blk St.lines).2.choose_spec.1
      have zw := St.B.size
      have i0' : (0 : Int) ≤ (k : Int) := by omega
      have i1 : (k : Int) < (m : Int) := by omega
      have i2 : (0 : Int) ≤ (L : Int) := by omega
      have i3 : (L : Int) < (N : Int) := by omega
      clear hxk p1 p2 p3 p4 p5 p6 St ok okf hv hl sm h3 hv0 hv1 hv2 c0 c1 c2' c3 g0 g1 g2 g3 h2 s1 s2 s3 hL
      obtain ⟨D, hD⟩ : ∃ D, D = doneF l ⟨s, (L : Int), y⟩ := ⟨_, rfl⟩
      have HD := Lib.hid hD
      clear hD
      go_upto_region 6 with fail
      go_cut [9, 10] from 14 to 47 (fun s9 s10 wc => ∃ b9 v', s9 = .pointer (some ⟨b9, 0, none⟩) ∧ s10 = .string ⟨D.2.toArray⟩ ∧ wc.heap[b9]? = some (.cells (LnV.cells v').toArray 71) ∧ LnOk wc (fun b => w.heap.size ≤ b ∧ b ≠ go ∧ b ≠ gl) v' D.1 ∧ Below wr.heap.size wr wc ∧ wr.heap.size ≤ b9 ∧ (v.full → v'.full))
      case first =>
        go_region_held3 (fun W => W.cell? ⟨b, off + k * 3, none⟩ = some (.string s) ∧ W.cell? ⟨b, off + k * 3 + 1, none⟩ = some (.int .i64 L) ∧ W.cell? ⟨b, off + k * 3 + 2, none⟩ = some (.int .i64 y) ∧ W.cell? ⟨gl, L * 4, none⟩ = some (.int .i64 v.room) ∧ W.cell? ⟨gl, L * 4 + 1, none⟩ = some (.slice v.AH v.nH v.cH) ∧ W.cell? ⟨gl, L * 4 + 2, none⟩ = some (.bool v.ended) ∧ W.cell? ⟨gl, L * 4 + 3, none⟩ = some (.slice v.AT v.nT v.cT) ∧ Below wr.heap.size wr W)
          (first | ((refine held7_below ?_ (Nat.le_refl _) ?_ <;> assumption); done) | (refine held7_of S0 ?_; (repeat' first | with_reducible assumption | with_reducible exact Below.refl _ _ | with_reducible apply below_al | with_reducible apply below_drew | with_reducible refine Below.setCell ?_ (by first | (simp; done) | (simp; omega)) _); done))
          (first
            | (go_at_call 85; refine (l1Done_any v l ⟨s, (L : Int), y⟩ _ (fun b => (w.heap.size ≤ b ∧ b ≠ go ∧ b ≠ gl) ∧ b ≠ wr.heap.size) (ok_held7 (by assumption) HOK.out.1 (fun b hb h => ⟨hb, by omega⟩)) HSM2.out HP.out (by intro b hb; simp at hb; exact ⟨⟨by omega, by omega, by omega⟩, by omega⟩) (fun h => HOK.out.2 (by simp only at h; omega))).mono ?_; rintro e w2 ⟨⟨r1, A1, n1, q1, t1, A3, n3, q3⟩, rfl, ok', b2, hf'⟩; have bw : Below wr.heap.size wr w2 := bw7 b2 (by assumption); simp only [LnV.cells]; have k9 : w2.heap[wr.heap.size]? = some (.cells #[.int .i64 0, .slice none 0 0, .bool false, .slice none 0 0] 71) := (b2.block _ (by simp)).trans (by ((try with_reducible apply blk_drew); (first | with_reducible assumption | (with_reducible refine heap_new' _ _ ?_; simp) | (with_reducible refine blk_alloc ?_ _; first | with_reducible assumption | (with_reducible refine heap_new' _ _ ?_; simp)) | (with_reducible refine blk_alloc ?_ _; with_reducible refine blk_alloc ?_ _; first | with_reducible assumption | (with_reducible refine heap_new' _ _ ?_; simp)) | (with_reducible refine blk_alloc ?_ _; with_reducible refine blk_alloc ?_ _; with_reducible refine blk_alloc ?_ _; first | with_reducible assumption | (with_reducible refine heap_new' _ _ ?_; simp))))); have e9 := blk_cell k9; have f9 := blk_frozen' k9; have z9 := blk_lt k9)
            | (go_at_call 85; refine (l1Done_any v l ⟨s, (L : Int), y⟩ _ (fun b => w.heap.size ≤ b ∧ b ≠ go ∧ b ≠ gl) (ok_held7 (by assumption) HOK.out.1 (fun b hb h => hb)) HSM2.out HP.out (by intro b hb; (try simp at hb); exact ⟨by omega, by omega, by omega⟩) (fun h => HOK.out.2 (by simp only at h; omega))).mono ?_; rintro e w2 ⟨⟨r1, A1, n1, q1, t1, A3, n3, q3⟩, rfl, ok', b2, hf'⟩; have bw : Below wr.heap.size wr w2 := bw7 b2 (by assumption); simp only [LnV.cells]))
        all_goals
          go_wp2_with fail
          go_meet
          have z2 := bw.size
          refine ⟨_, ⟨r1, A1, n1, q1, t1, A3, n3, q3⟩, rfl, by rw [HD.out], ?_, ?_, ?_, ?_, hf'⟩
          · first | exact (blk_set4 (x0 := .int .i64 r1) (x1 := .slice A1 n1 q1) (x2 := .bool t1) (x3 := .slice A3 n3 q3) k9) | exact heap_alloc_new _ _
          · rw [HD.out]
            first | with_reducible exact LnOk.alloc ok' _ | (refine LnOk.set ok' ?_; (repeat' (first | with_reducible assumption | with_reducible exact Chg.refl _ _ _ | (with_reducible refine Chg.setCell ?_ (by first | omega | (simp; done) | (simp; omega)) (by first | omega | (simp; done) | (simp; omega)) _) | with_reducible apply Chg.alloc)))
          · first | with_reducible exact below_al bw _ | (refine Below.chg bw (lo := wr.heap.size) (hi := wr.heap.size + 1) ?_ (Nat.le_refl _); (repeat' (first | with_reducible assumption | with_reducible exact Chg.refl _ _ _ | (with_reducible refine Chg.setCell ?_ (by first | omega | (simp; done) | (simp; omega)) (by first | omega | (simp; done) | (simp; omega)) _) | with_reducible apply Chg.alloc)))
          · first | exact z2 | exact Nat.le_refl _
      case rest =>
        obtain ⟨b9, ⟨r1, A1, n1, q1, t1, A3, n3, q3⟩, rfl, rfl, hb9, okD, Bc, zb9, hfD⟩ := hcut
        simp only [LnV.cells] at hb9
        have S1 := held7_of S0 Bc
        obtain ⟨a0, a1, a2, a3, a4, a5, a6, _⟩ := S1
        have e9 := blk_cell hb9
        obtain ⟨gl1, csl, kgl, _⟩ := row_blk HST.out.lines
        have fgl := blk_frozen' ((Bc.block gl zgl).trans kgl)
        have HBC := Lib.hid Bc
        have HOKD := Lib.hid okD
        have HFD := Lib.hid hfD
        have zc := Bc.size
        have hne := HST.out.ne
        clear hb9 okD Bc hfD kgl S0
        have hb9z : b9 ≠ gl := by omega
        go_upto_region 7 with fail
        go_region
        go_upto_region 8 with fail
        obtain ⟨Wd, hWd⟩ : ∃ Wd, Wd = (((wc.setCell ⟨gl, L * 4, none⟩ (.int .i64 r1)).setCell ⟨gl, L * 4 + 1, none⟩ (.slice A1 n1 q1)).setCell ⟨gl, L * 4 + 2, none⟩ (.bool t1)).setCell ⟨gl, L * 4 + 3, none⟩ (.slice A3 n3 q3) := ⟨_, rfl⟩
        rw [← hWd]
        have hsz : Wd.heap.size = wc.heap.size := by rw [hWd]; simp
        have hk : Chg gl (gl + 1) wc Wd := by rw [hWd]; (repeat' (first | with_reducible assumption | with_reducible exact Chg.refl _ _ _ | (with_reducible refine Chg.setCell ?_ (by first | omega | (simp; done) | (simp; omega)) (by first | omega | (simp; done) | (simp; omega)) _) | with_reducible apply Chg.alloc))
        have HWD := Lib.hid hWd
        have hO : Wd.ownsRow w.heap.size 9 1 (.slice (some ⟨go, 0, none⟩) k co) k (txts (runF rooms (ds.take k)).2) := row_at HST.out.out ((hk.block go (by omega) (by omega)).trans (HBC.out.block go zgo))
        have HO := Lib.hid hO
        clear hWd hk hO e9 fgl a0 a1 a2 a3 a4 a5 a6
        obtain ⟨hi0, hz0, hz1, hz2⟩ := HI.out
        have HH := Lib.hid hi0
        clear hi0
        go_wp2_with (at_builtin; refine wpList_append_lies _ rfl (.tmp 44) (.tmp 46) 38 rfl w.heap.size 9 i0 (.string ⟨#[]⟩) 1 16 Tryd.underlying38 HH.out hz0 hz1 hz2 rfl (by decide) (.slice (some ⟨go, 0, none⟩) k co) k _ rfl (row_below' HO.out (below_drew (below_al (Below.refl _ _) _))) ⟨_, 0, none⟩ 1 1 [.string ⟨D.2.toArray⟩] rfl rfl (World.news_of_block (cs := #[.string ⟨D.2.toArray⟩]) (blk_drew (heap_new' Wd _ hsz.symm))) (by simp [Value.oneCell']) (by decide) (by unfold maxLen; omega) (by omega) (by simp; omega) _ rfl ?_; intro g2 c2n w2 hown2 hgr2 hat2 hlt2; have HO2 := Lib.hid hown2; have HG2 := Lib.hid hgr2; have HAT := Lib.hid hat2; clear hown2 hgr2 hat2)
        go_roundw
        case rel =>
          refine ⟨k + 1, g2, c2n, vs.set L ⟨r1, A1, n1, q1, t1, A3, n3, q3⟩, by omega, by go_num, rfl, ?_⟩
          rw [runF_take HX.out]
          refine HST.out.step (l := l) rfl hLN (lns_len HST.out.lines) HVL.out.2 HBC.out (HD.out ▸ HOKD.out) (fun h => HFD.out (HOK.out.2 h)) HWD.out (below_drew (below_al (Below.refl _ _) _)) HG2.out ?_ (HD.out ▸ HO2.out)
          rcases HAT.out with h | h
          · left; simpa [Value.ownBlock] using h
          · right; exact h
        case measure => simp [intOf]; omega
    · have e : k = m := by omega
      subst e
      clear h2
      have hs := St
      rw [List.take_of_length_le (Nat.le_of_eq HLM.out)] at hs
      go_wp2
      refine bodyPost_ret (v := .tuple #[.slice (some ⟨gl, 0, none⟩) N cl, .slice (some ⟨go, 0, none⟩) k co]) ?_ rfl ⟨gl, cl, go, co, vs, by rw [HN.out, HLM.out], by rw [← HN.out, HLM.out]; exact hs⟩
      simp [results, Tryd.results60, go_sem]
end Go.Proofs.YtojnnemodikpeaaDoor
