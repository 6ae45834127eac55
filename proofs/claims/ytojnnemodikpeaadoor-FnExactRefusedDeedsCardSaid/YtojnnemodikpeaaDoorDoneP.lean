/-
  l1Done: a number put into a line.
-/
import Derived.Test.YtojnnemodikpeaaDoorDone
import Derived.Deep.CutRange
namespace Go.Proofs.YtojnnemodikpeaaDoor
open Go.RowKit
set_option linter.unusedVariables false
theorem ln_two {w2 w' : World} {P : Nat → Prop} {a H : Nat} {v : LnV} {l : Ln} (hr : v.room = l.room) (he : v.ended = l.ended) (hh : Slc w2 H w2.heap.size 1 v.AH v.nH v.cH (ints l.held)) (ht : Slc w2 0 a 1 v.AT v.nT v.cT (ints l.taken))
    (htP : ∀ b off, 0 < v.nT → v.AT = some ⟨b, off, none⟩ → P b) (hP : ∀ b, H ≤ b → P b) (ha : a ≤ w2.heap.size) (hk : Chg a H w2 w') : LnOk w' P v l :=
  ⟨hr, he, (hh.chg hk (.inr (Nat.le_refl _))).wide (Nat.zero_le _) hk.size, (ht.chg hk (.inl (Nat.le_refl _))).wide (Nat.le_refl _) (Nat.le_trans ha hk.size), hh.inP hP, htP⟩
theorem ints_snoc (xs : List Int) (y : Int) : ints xs ++ [.int .i64 y] = ints (xs ++ [y]) := by simp [ints]
set_option maxHeartbeats 4000000 in
theorem done_put (v : LnV) (l : Ln) (d : DeedD) (w : World) (P : Nat → Prop) (h : LnOk w P v l) (hs : LnSmall l) (hd : ¬ d.a = 0) (ht : d.act.toList = putA) (he : l.ended = false) (hr : ¬ l.room ≤ l.held.length) (hP : ∀ b, w.heap.size ≤ b → P b) (hf : v.full) :
    Calls Tryd.prog 85 #[.agg #[.int .i64 v.room, .slice v.AH v.nH v.cH, .bool v.ended, .slice v.AT v.nT v.cT], .agg #[.string d.act, .int .i64 d.a, .int .i64 d.b]] w (DoneSays w P v l d) := by
  have hF : doneF l d = ({ l with held := l.held ++ [d.b] }, tPut) := by
    unfold doneF
    rw [if_neg (by rw [ht]; simp [putA, lookA]), if_neg hd, ht]
    cases hc : l.held <;> (rw [hc] at hr; simp [he, putA, takeA, endA]; simp at hr; omega)
  have HF := Lib.hid hF
  have hn := h.held.length
  have hs1 := hs.held
  rw [hn] at hs1
  have hro := h.room
  have hen := h.ended
  have HO := Lib.hid h
  clear hF h hs
  obtain ⟨s, x, y⟩ := d
  obtain ⟨r, A, n, c, t, A', n', c'⟩ := v
  obtain ⟨lr, lh, le, lt⟩ := l
  subst hro hen
  have hs' : s.toList = putA := ht
  have h1 : (s.toList == [108, 111, 111, 107]) = false := by rw [hs']; rfl
  have h2 : (x == 0) = false := by rw [beq_eq_false_iff_ne]; exact hd
  have h3 : (s.toList == [116, 97, 107, 101]) = false := by rw [hs']; rfl
  have h4 : (s.toList == [101, 110, 100]) = false := by rw [hs']; rfl
  have he' : t = false := he
  subst he'
  have hr' : ¬ r ≤ n := by have h0 := hr; have h9 := hn; simp only at h0 h9; omega
  obtain ⟨⟨bh, oh, eh⟩, hf2⟩ := hf
  have eh' : A = some ⟨bh, oh, none⟩ := eh
  subst eh'
  have HF2 := Lib.hid hf2
  have hn' : lh.length = n := hn
  have hs1' : n ≤ 1000 := hs1
  have HN := Lib.hid (And.intro hn' hs1')
  have hcl : n ≤ c := HO.out.held.le
  have HC := Lib.hid hcl
  clear hd ht he hs' hn hr hs1 eh hf2 hn' hs1' hcl
  obtain ⟨i0, hi, hz0, hz1, hz2⟩ := info_parts info_int
  have HI := Lib.hid (And.intro hi (And.intro hz0 (And.intro hz1 hz2)))
  clear hi hz0 hz1 hz2
  go_enter Tryd.func85, Tryd.ntmps85
  go_upto_region 19 with fail
  obtain ⟨W, hW⟩ : ∃ W, W = ((w.alloc (.cells #[.int .i64 r, .slice (some ⟨bh, oh, none⟩) n c, .bool false, .slice A' n' c'] 71)).alloc (.cells #[.string s, .int .i64 x, .int .i64 y] 46)).alloc (.cells #[.int .i64 0, .slice none 0 0, .bool false, .slice none 0 0] 71) := ⟨_, rfl⟩
  rw [← hW]
  have kl : W.heap[w.heap.size]? = some (.cells #[.int .i64 r, .slice (some ⟨bh, oh, none⟩) n c, .bool false, .slice A' n' c'] 71) := by rw [hW]; exact blk_alloc (blk_alloc (heap_alloc_new _ _) _) _
  have kd : W.heap[w.heap.size + 1]? = some (.cells #[.string s, .int .i64 x, .int .i64 y] 46) := by rw [hW]; exact blk_alloc (heap_new' _ _ (by simp)) _
  have kr : W.heap[w.heap.size + 1 + 1]? = some (.cells #[.int .i64 0, .slice none 0 0, .bool false, .slice none 0 0] 71) := by rw [hW]; exact heap_new' _ _ (by simp)
  have B : Below w.heap.size w W := by rw [hW]; exact below_al (below_al (below_al (Below.refl _ _) _) _) _
  have zr := blk_lt kr
  have zd := blk_lt kd
  have zl := blk_lt kl
  have HK := Lib.hid (And.intro kl (And.intro kr (And.intro B kd)))
  clear hW
  have el := blk_cell kl
  have ed := blk_cell kd
  have fl := blk_frozen' kl
  clear kl kd kr B
  go_cut [] from 76 to 84 (fun wc => ∃ g2 c2 w2, wc = w2.setCell ⟨w.heap.size, 1, none⟩ (.slice (some ⟨g2, 0, none⟩) (n + 1) c2) ∧ w2.ownsRow W.heap.size 3 1 (.slice (some ⟨g2, 0, none⟩) (n + 1) c2) (n + 1) (ints lh ++ [.int .i64 y]) ∧ Below W.heap.size W w2)
  case first =>
    obtain ⟨hi, hz0, hz1, hz2⟩ := HI.out
    have HH := Lib.hid hi
    clear hi
    go_region_law (first
        | (refine step_app _ rfl (.tmp 76) (.tmp 78) 22 rfl W.heap.size 3 i0 (.int .i64 0) 1 8 Tryd.underlying22 HH.out hz0 hz1 hz2 rfl (by decide) (.slice (some ⟨_, 0, none⟩) 0 0) 0 [] rfl (row_empty ?c1 ?c2) (by simp) ⟨bh, oh, none⟩ n c (ints lh) rfl (by simp [ints, HN.out.1]) (HO.out.held.news ?c3) (ints_one _) ?c5 ?c6 ?c7 ?_; (case c1 => first | omega | (simp; done) | (simp; omega)); (case c2 => ((try with_reducible apply blk_drew); (first | with_reducible assumption | (with_reducible refine heap_new' _ _ ?_; simp) | (with_reducible refine blk_alloc ?_ _; first | with_reducible assumption | (with_reducible refine heap_new' _ _ ?_; simp)) | (with_reducible refine blk_alloc ?_ _; with_reducible refine blk_alloc ?_ _; first | with_reducible assumption | (with_reducible refine heap_new' _ _ ?_; simp)) | (with_reducible refine blk_alloc ?_ _; with_reducible refine blk_alloc ?_ _; with_reducible refine blk_alloc ?_ _; first | with_reducible assumption | (with_reducible refine heap_new' _ _ ?_; simp))))); (case c3 => (refine HK.out.2.2.1.trans (Below.mono (?_ : Below W.heap.size W _) (by omega)); (repeat' (first | with_reducible assumption | with_reducible exact Below.refl _ _ | with_reducible apply below_al | with_reducible apply below_drew)))); (case c5 => have := HN.out.2; unfold maxLen; omega); (case c6 => have := HN.out.2; omega); (case c7 => first | omega | (simp; done) | (simp; omega)); intro g1 c1 w1 hown1 hgr1 B1; simp only [Nat.zero_add, List.nil_append] at hown1; have HO1 := Lib.hid hown1; have HG1 := Lib.hid hgr1; have BW := (Below.trans (by (repeat' (first | with_reducible assumption | with_reducible exact Below.refl _ _ | with_reducible apply below_al | with_reducible apply below_drew))) B1 : Below W.heap.size W w1); have z1 := BW.size; have el := blk_cell ((BW.block _ zl).trans HK.out.1); have ed := blk_cell ((BW.block _ zd).trans HK.out.2.2.2); have fl := blk_frozen' ((BW.block _ zl).trans HK.out.1); have HB1 := Lib.hid BW; clear hown1 hgr1 B1 BW)
        | (refine step_app _ rfl (.tmp 79) (.tmp 82) 22 rfl W.heap.size 3 i0 (.int .i64 0) 1 8 Tryd.underlying22 HH.out hz0 hz1 hz2 rfl (by decide) (.slice (some ⟨g1, 0, none⟩) n c1) n (ints lh) rfl ?c1 (by simp) ⟨_, 0, none⟩ 1 1 [.int .i64 y] rfl rfl ?c2 (by simp [Value.oneCell']) ?c5 ?c6 ?c7 ?_; (case c1 => first | exact HO1.out | exact row_keep HO1.out (fun b hb => Below.heap_alloc _ _ b hb)); (case c2 => first | exact cell_one_new _ _ _ | exact World.news_of_block ((HG1.out.block _ (by first | (simp; done) | (simp; omega)) (by first | (simp [Value.ownBlock]; done) | (simp [Value.ownBlock]; omega))).trans (by ((try with_reducible apply blk_drew); (first | with_reducible assumption | (with_reducible refine heap_new' _ _ ?_; simp) | (with_reducible refine blk_alloc ?_ _; first | with_reducible assumption | (with_reducible refine heap_new' _ _ ?_; simp)) | (with_reducible refine blk_alloc ?_ _; with_reducible refine blk_alloc ?_ _; first | with_reducible assumption | (with_reducible refine heap_new' _ _ ?_; simp)) | (with_reducible refine blk_alloc ?_ _; with_reducible refine blk_alloc ?_ _; with_reducible refine blk_alloc ?_ _; first | with_reducible assumption | (with_reducible refine heap_new' _ _ ?_; simp))))))); (case c5 => have := HN.out.2; unfold maxLen; omega); (case c6 => have := HN.out.2; omega); (case c7 => first | omega | (simp; done) | (simp; omega)); intro g2 c2 w2 hown2 hgr2 B2; have HO2 := Lib.hid hown2; have BW := (Below.trans (by have := HB1.out; (repeat' (first | with_reducible assumption | with_reducible exact Below.refl _ _ | with_reducible apply below_al | with_reducible apply below_drew))) B2 : Below W.heap.size W w2); have z2 := BW.size; have kl := (BW.block _ zl).trans HK.out.1; have kr := (BW.block _ zr).trans HK.out.2.1; have el := blk_cell kl; have er := blk_cell kr; have fl := blk_frozen' kl; have fr := blk_frozen' kr; have HB2 := Lib.hid BW; have HKL := Lib.hid kl; clear hown2 hgr2 B2 BW kl kr))
    all_goals
      go_wp2_with fail
      go_meet
      exact ⟨g2, c2, w2, rfl, HO2.out, HB2.out⟩
  case rest =>
    obtain ⟨g2, c2, w2, rfl, ho2, hb2⟩ := hcut
    have hO2 := row_slc ho2 (by decide)
    have HO2 := Lib.hid hO2
    have z2 := hb2.size
    have HB2 := Lib.hid hb2
    have kl := (hb2.block _ zl).trans HK.out.1
    have kr := (hb2.block _ zr).trans HK.out.2.1
    have el := blk_cell kl
    have er := blk_cell kr
    have fl := blk_frozen' kl
    have fr := blk_frozen' kr
    have zl2 := blk_lt kl
    have zr2 := blk_lt kr
    clear kl kr ho2 hO2 hb2 ed
    go_wp2
    have hF := HF.out
    have hO2 := HO2.out
    have hC := HK.out.2.2.1.trans (HB2.out.mono (by omega))
    refine bodyPost_ret (v := .tuple #[.agg #[.int .i64 r, .slice (some ⟨g2, 0, none⟩) (n + 1) c2, .bool false, .slice A' n' c'], .string ⟨tPut.toArray⟩]) ?_ rfl ⟨⟨r, some ⟨g2, 0, none⟩, n + 1, c2, false, A', n', c'⟩, ?_, ?_, ?_, fun hf => ⟨⟨_, _, rfl⟩, hf.2⟩⟩
    · simp [results, Tryd.results85, go_sem, er, tPut]
    · rw [hF]; rfl
    · rw [hF]
      refine ln_two rfl rfl ?_ (HO.out.taken.below hC) HO.out.takenP (fun b hb => hP b (by omega)) hC.size (H := W.heap.size) (by (repeat' (first | with_reducible assumption | with_reducible exact Chg.refl _ _ _ | (with_reducible refine Chg.setCell ?_ (by first | omega | (simp; done) | (simp; omega)) (by first | omega | (simp; done) | (simp; omega)) _) | with_reducible apply Chg.alloc)))
      rw [← ints_snoc]; exact hO2
    · exact Below.chg hC (hi := W.heap.size) (by (repeat' (first | with_reducible assumption | with_reducible exact Chg.refl _ _ _ | (with_reducible refine Chg.setCell ?_ (by first | omega | (simp; done) | (simp; omega)) (by first | omega | (simp; done) | (simp; omega)) _) | with_reducible apply Chg.alloc))) (Nat.le_refl _)
end Go.Proofs.YtojnnemodikpeaaDoor
