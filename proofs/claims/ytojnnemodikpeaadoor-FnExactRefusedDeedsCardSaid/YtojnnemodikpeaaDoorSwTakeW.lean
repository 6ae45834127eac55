/-
  The switchboard: take, something held.
-/
import Derived.Test.YtojnnemodikpeaaDoorSwTook
import Derived.Test.YtojnnemodikpeaaDoorApp
import Derived.Deep.CutRange
import Derived.Test.YtojnnemodikpeaaDoorShelf
import Derived.Test.YtojnnemodikpeaaDoorDoneT
namespace Go.Proofs.YtojnnemodikpeaaDoor
open Go.RowKit Go.Conc Go.Sort
set_option linter.unusedVariables false
theorem below_alB {B : Nat} {w W : World} (h : Below B w W) (hB : B ≤ W.heap.size) (o : Obj) : Below B w (W.alloc o) := h.trans ((below_al (Below.refl W.heap.size W) o).mono hB)
theorem zero_ints (w : World) : (zeroValue 22).run Tryd.prog w = .ok (.slice none 0 0) w := by
  obtain ⟨i0, hi, hz0, _, _⟩ := info_parts (show (Tryd.prog.info? 22).map (fun i => (i.zero, i.size, i.bytes)) = some (some (.slice none 0 0), 1, 24) by kernel_rfl)
  simp [zeroValue, typeInfo, hi, hz0]
set_option maxRecDepth 20000 in
set_option maxHeartbeats 4000000 in
theorem take_some {w : World} {base : Nat} {S : Sw} {ls : List Ln} (h : SwOk w base S ls) {i c : Nat} {l : Ln} {x : Int} {xs : List Int} (hc : S.cs[i]? = some c) (hl : ls[i + 1]? = some l) (hh : l.held = x :: xs) (hx0 : 0 ≤ x) (hx1 : x ≤ 1000) (hsm : l.taken.length ≤ 1000) (htab : ∀ w', Below base w w' → Lib.TabIs Tryd.prog w' "internal/strconv.uint64pow10" .u64 Lib.pow10Tab) :
    Calls Tryd.prog 99 #[.pointer (some ⟨S.sp, 0, none⟩), .chan (some c)] w fun e w' => e = .returned (.string ⟨(takeF l).2.toArray⟩) ∧ SwOk w' base S (ls.set (i + 1) (takeF l).1) ∧ Below base w w' ∧ KeepC w w' := by
  obtain ⟨b1, b2, s0, r0, hch⟩ := h.chans i c l hc hl
  have hT : takeF l = ({ l with held := xs, taken := l.taken ++ [x] }, tTook x) := by unfold takeF; rw [hh]
  rw [hT]
  obtain ⟨m1, ps, hm, hold, hinj⟩ := h.taken
  rw [hh] at hch
  obtain ⟨w1, hw1⟩ : ∃ w1, w1 = w.setChan c l.room.toNat (((ints (x :: xs)).toArray).extract 1 ((ints (x :: xs)).toArray).size) l.ended s0 (r0 + 1) false := ⟨_, rfl⟩
  have HC := Lib.hid (And.intro hch hw1)
  obtain ⟨es, clk, hm0, hm9⟩ := hm
  have hne := blk_ne h.st hch (by simp)
  have hsp : w1.heap[S.sp]? = some (.cells #[.slice (some ⟨S.gl, 0, none⟩) (S.cs.length + 1) S.cl, .map (some S.mc), .map (some S.mt)] 80) := by
    rw [hw1]; simp only [World.setChan]; rw [Array.getElem?_setIfInBounds_ne (fun e => hne e.symm)]; exact h.st
  have hmc := blk_ne hm0 (HC.out.1) (by simp)
  have hm1 : w1.heap[S.mt]? = some (.map es clk) := by rw [hw1]; simp only [World.setChan]; rw [Array.getElem?_setIfInBounds_ne (fun e => hmc e.symm)]; exact hm0
  have zmt := blk_lt hm1
  obtain ⟨fU, hU, hU2⟩ := run_update_all (P := Tryd.prog) Tryd.underlying78 und_chan (c := c) (b := S.mt) (clock := clk) hm9
  have HU2 := Lib.hid hU2
  obtain ⟨V, hV⟩ : ∃ V, V = (lookC c ps).getD (.slice none 0 0) := ⟨_, rfl⟩
  have hlk : ∀ W : World, W.heap[S.mt]? = some (.map es clk) → (Instr.lookup 78 (.map (some S.mt)) (.chan (some c)) false).run Tryd.prog W = .ok V W := fun W hW => by
    have := run_lookup_chan (P := Tryd.prog) Tryd.underlying78 und_chan (zero_ints W) (c := c) (ps := ps) ⟨es, clk, hW, hm9⟩ false
    rw [hV]; simpa using this
  have hVo : w1.ownsRow base 3 1 V l.taken.length (ints l.taken) := by
    rcases hold i c l hc hl with ⟨e1, e2⟩ | ⟨g, n, cc, e1, e2⟩
    · rw [hV, e1, e2]; exact ⟨rfl, .inl ⟨rfl, rfl⟩⟩
    · obtain ⟨_, cur, k2, _⟩ := row_blk e2
      have hn : n = l.taken.length := by have := e2.1; simp [ints] at this; omega
      rw [hV, e1]; subst hn
      refine row_at e2 ?_
      rw [hw1]; simp only [World.setChan]; rw [Array.getElem?_setIfInBounds_ne (fun e => (blk_ne k2 HC.out.1 (by simp)) e.symm)]
  have HVO := Lib.hid hVo
  have hlkA := hlk w1.drew hm1
  have hlkB := hlk ((w1.alloc (.cells #[.int .i64 x] 3)).drew) (blk_drew (blk_alloc hm1 _))
  have hVm : ¬ some S.mt = V.ownBlock := by
    obtain ⟨_, hq | ⟨g, cap, cur, e1, e2, e3, _⟩⟩ := hVo
    · rw [hq.1]; simp [Value.ownBlock]
    · rw [e1]; simp only [Value.ownBlock]
      intro e; injection e with e
      have e : S.mt = g := e
      rw [e] at hm1; rw [hm1] at e3; cases e3
  have hVs : ¬ some S.sp = V.ownBlock := by
    obtain ⟨_, hq | ⟨g, cap, cur, e1, e2, e3, _⟩⟩ := HVO.out
    · rw [hq.1]; simp [Value.ownBlock]
    · rw [e1]; simp only [Value.ownBlock]
      intro e; injection e with e
      have e : S.sp = g := e
      rw [e] at hsp; rw [hsp] at e3; cases e3
  have HSP := Lib.hid (And.intro hsp hVs)
  clear hVs
  have HM1 := Lib.hid (And.intro hm1 (And.intro hVm hU))
  clear hlk hVm hU hm1
  have hwb : base ≤ w1.heap.size := by have := (row_blk h.lines).1; have := blk_lt h.st; have := h.sb; rw [hw1]; simp [World.setChan]; omega
  obtain ⟨i0, hi0, hz0, hz1, hz2⟩ := info_parts info_int
  have HI := Lib.hid hi0
  clear hi0 hVo hU2
  have ec := blk_cell hsp
  have zsp := blk_lt hsp
  clear hw1 hch
  go_enter Tryd.func99, Tryd.ntmps99
  go_upto_region 2 with fail
  refine wp_select_recv_buf (c := c) (z := .int .i64 0) rfl rfl (by simp [go_sem, execOp, rcase, Act.eval]) HC.out.1 (by simp [ints]) ?_
  rw [← HC.out.2]
  have hg0 : ((ints (x :: xs)).toArray).getD 0 undef = .int .i64 x := by simp [ints]
  rw [hg0]
  go_upto_region 7 with fail
  have HH := Lib.hid (And.intro h (And.intro hc (And.intro hl (And.intro hold (And.intro hinj hV)))))
  have HHH := Lib.hid hh
  clear h hc hl hold hinj hV hh hT
  go_cut [] from 15 to 28 (fun wc => ∃ g2 c2n w3, wc = { w3 with heap := w3.heap.setIfInBounds S.mt (fU (.slice (some ⟨g2, 0, none⟩) (l.taken.length + 1) c2n)) } ∧ w3.ownsRow base 3 1 (.slice (some ⟨g2, 0, none⟩) (l.taken.length + 1) c2n) (l.taken.length + 1) (ints l.taken ++ [.int .i64 x]) ∧ ((w1.alloc (.cells #[.int .i64 x] 3)).drew).grownBy w3 V.ownBlock ∧ (V.ownBlock = some g2 ∨ g2 = w1.heap.size + 1))
  case first =>
    go_region_law (first
        | (refine step_append_lies _ rfl (.tmp 25) (.tmp 27) 22 rfl base 3 i0 (.int .i64 0) 1 8 Tryd.underlying22 HI.out hz0 hz1 hz2 rfl (by decide) V l.taken.length (ints l.taken) rfl ?c1 ⟨_, 0, none⟩ 1 1 [.int .i64 x] rfl rfl ?c2 (by simp [Value.oneCell']) (by decide) ?c5 ?c6 ?c7 _ rfl ?_; (case c1 => exact row_below' HVO.out (by (repeat' (first | with_reducible assumption | with_reducible exact Below.refl _ _ | with_reducible apply below_al | with_reducible apply below_drew)))); (case c2 => exact World.news_of_block (cs := #[.int .i64 x]) (by ((try with_reducible apply blk_drew); (first | with_reducible assumption | (with_reducible refine heap_new' _ _ ?_; simp) | (with_reducible refine blk_alloc ?_ _; first | with_reducible assumption | (with_reducible refine heap_new' _ _ ?_; simp)) | (with_reducible refine blk_alloc ?_ _; with_reducible refine blk_alloc ?_ _; first | with_reducible assumption | (with_reducible refine heap_new' _ _ ?_; simp)) | (with_reducible refine blk_alloc ?_ _; with_reducible refine blk_alloc ?_ _; with_reducible refine blk_alloc ?_ _; first | with_reducible assumption | (with_reducible refine heap_new' _ _ ?_; simp)))))); (case c5 => unfold maxLen; omega); (case c6 => omega); (case c7 => first | omega | (simp; omega)); intro g2 c2n w3 hown2 hgr2 hat2 hlt2; have HO2 := Lib.hid hown2; have HG2 := Lib.hid hgr2; have HAT := Lib.hid hat2; have hm3 : w3.heap[S.mt]? = some (.map es clk) := (hgr2.block S.mt (by first | (simp; done) | (simp; omega)) HM1.out.2.1).trans (blk_drew (blk_alloc HM1.out.1 _)); have hup := fun v => HM1.out.2.2 w3 v hm3; have hsp3 := (hgr2.block S.sp (by first | (simp; done) | (simp; omega)) HSP.out.2).trans (blk_drew (blk_alloc HSP.out.1 _)); have ec3 := blk_cell hsp3; have HM3 := Lib.hid hm3; clear hown2 hgr2 hat2 hm3))
    all_goals
      go_wp2_with fail
      go_meet
      exact ⟨g2, c2n, w3, rfl, HO2.out, HG2.out, HAT.out.imp id (fun h => h.trans (by simp))⟩
  case rest =>
    obtain ⟨g2, c2n, w3, rfl, ho2, hg2, hat⟩ := hcut
    have hb1 : Below base w w1 := by rw [HC.out.2]; exact below_setChan (Below.refl _ _) b1 _ _ _ _ _ _
    have hb3 : Below base w1 w3 := (below_drew (below_alB (Below.refl base w1) hwb _)).trans (row_below HVO.out hg2 (by simp; omega))
    have hb4 : Below base w { w3 with heap := w3.heap.setIfInBounds S.mt (fU (.slice (some ⟨g2, 0, none⟩) (l.taken.length + 1) c2n)) } := below_set (hb1.trans hb3) m1
    have HB4 := Lib.hid hb4
    have HG := Lib.hid (And.intro ho2 (And.intro hg2 hat))
    have hz4 : base ≤ ({ w3 with heap := w3.heap.setIfInBounds S.mt (fU (.slice (some ⟨g2, 0, none⟩) (l.taken.length + 1) c2n)) } : World).heap.size := by have := hb3.size; simp; omega
    have hll : (Lib.itoa x).length ≤ 20 := by
      obtain ⟨X, rfl⟩ := Int.eq_ofNat_of_zero_le hx0
      rw [Lib.itoa_nonneg]; exact dec_len (by omega)
    clear ho2 hg2 hat hb1 hb3 hb4
    generalize hwc : ({ w3 with heap := w3.heap.setIfInBounds S.mt (fU (.slice (some ⟨g2, 0, none⟩) (l.taken.length + 1) c2n)) } : World) = W4 at *
    have HWC := Lib.hid hwc
    clear hwc
    go_wp2_with (go_at_call 98; refine (Tryd.strconv_Itoa x (by omega) (by omega) _ (htab _ HB4.out)).mono ?_; rintro e w5 ⟨rfl, kk, os, rfl⟩)
    obtain ⟨h, hc, hl, hold, hinj, hV⟩ := HH.out
    obtain ⟨ho2, hg2, hat⟩ := HG.out
    have hW4 := HWC.out
    have zw1 : w1.heap.size = w.heap.size := by rw [HC.out.2]; simp [World.setChan]
    have zw3 : w1.heap.size + 1 ≤ w3.heap.size := by have := hg2.size; simpa using this
    have zW4 : W4.heap.size = w3.heap.size := by rw [← hW4]; simp
    have B5 : Below W4.heap.size W4 (grow (W4.drewN kk) os) := ⟨rfl, rfl, rfl, by simp [grow], fun i hi => by
      show ((W4.drewN kk).heap ++ os)[i]? = _
      rw [Array.getElem?_append_left (by show i < W4.heap.size; omega)]
      rfl⟩
    have hVB : takenBlk (lookC c ps) = V.ownBlock := by
      rcases hold i c l hc hl with ⟨e1, _⟩ | ⟨g, n, cc, e1, _⟩
      · rw [hV, e1]; rfl
      · rw [hV, e1]; rfl
    have hV4 : ∀ b, b < w.heap.size → b ≠ S.mt → ¬ some b = V.ownBlock → (grow (W4.drewN kk) os).heap[b]? = w1.heap[b]? := fun b z e2 e3 => by
      rw [B5.block b (by omega), ← hW4]
      simp only
      rw [Array.getElem?_setIfInBounds_ne (fun e => e2 e.symm), hg2.block b (by simp; omega) e3]
      exact (Below.heap_alloc _ _ _ (by omega))
    have hcV : ¬ some c = V.ownBlock := by
      rw [← hVB]
      rcases hold i c l hc hl with ⟨e1, _⟩ | ⟨g, n, cc, e1, e2⟩
      · rw [e1]; simp [takenBlk]
      · rw [e1]
        obtain ⟨_, cur, k2, _⟩ := row_blk e2
        intro e; injection e with e
        have e : c = g := e
        exact blk_ne k2 HC.out.1 (by simp) e.symm
    have zc := blk_lt HC.out.1
    obtain ⟨es', clk', u1, u2⟩ := HU2.out (.slice (some ⟨g2, 0, none⟩) (l.taken.length + 1) c2n)
    have hm3 : w3.heap[S.mt]? = some (.map es clk) := (hg2.block S.mt (by simp; omega) HM1.out.2.1).trans (blk_drew (blk_alloc HM1.out.1 _))
    have km : (grow (W4.drewN kk) os).heap[S.mt]? = some (.map es' clk') := by
      rw [B5.block S.mt (by omega), ← hW4]
      simp only
      rw [Array.getElem?_setIfInBounds_self_of_lt (by omega), u1]
    refine bodyPost_ret (v := .string ⟨(tTook x).toArray⟩) ?_ rfl ⟨rfl, ?_, HB4.out.trans (B5.mono hz4), ?_⟩
    · simp [results, Tryd.results99, go_sem, tTook, bytes_app]
    · refine h.took (x := x) (xs := xs) (s := s0) (r := r0 + 1) (ps := ps) (g := g2) (cc := c2n) hc hl HHH.out ⟨es, clk, hm0, hm9⟩ hold hinj (fun b z e1 e2 e3 => ?_) ?_ ?_ ?_ ⟨es', clk', km, u2⟩
      · rw [hV4 b z e2 (by rw [← hVB]; exact e3), HC.out.2]
        simp only [World.setChan]
        rw [Array.getElem?_setIfInBounds_ne (fun e => e1 e.symm)]
      · rw [hV4 c zc (fun e => hmc e.symm) hcV, HC.out.2, heap_setChan _ _ _ _ _ _ _ _ zc]
        rw [show ((ints (x :: xs)).toArray).extract 1 ((ints (x :: xs)).toArray).size = (ints xs).toArray by apply Array.ext'; simp [ints]; exact List.take_of_length_le (by simp)]
      · rw [hVB]
        rcases hat with e | e
        · exact .inl e.symm
        · right; omega
      · rw [← ints_snoc]
        obtain ⟨_, cur, k2, _⟩ := row_blk ho2
        refine row_at ho2 ((B5.block g2 (by have := blk_lt k2; omega)).trans ?_)
        rw [← hW4]
        simp only
        rw [Array.getElem?_setIfInBounds_ne (blk_ne hm3 k2 (by simp))]
    · refine KeepC.trans ?_ (KeepC.below B5)
      have q1 : KeepC w w1 := by rw [HC.out.2]; exact KeepC.set HC.out.1 (by simp)
      have q2 : KeepC w1 w3 := (KeepC.below (below_drew (below_al (Below.refl _ _) _))).trans (KeepC.grown hg2 fun b e => by
        rw [← hVB] at e
        rcases hold i c l hc hl with ⟨e1, _⟩ | ⟨g, n, cc, e1, e2⟩
        · rw [e1] at e; simp [takenBlk] at e
        · rw [e1] at e
          injection e with e
          have e : g = b := e
          subst e
          obtain ⟨_, cur, k2, _⟩ := row_blk e2
          refine ⟨cur, (0, 0), blk_drew (blk_alloc ?_ _)⟩
          rw [HC.out.2]; simp only [World.setChan]; rw [Array.getElem?_setIfInBounds_ne (fun e => (blk_ne k2 HC.out.1 (by simp)) e.symm)]; exact k2)
      have q3 : KeepC w3 W4 := by rw [← hW4]; exact KeepC.set hm3 (by simp)
      exact (q1.trans q2).trans q3
end Go.Proofs.YtojnnemodikpeaaDoor
