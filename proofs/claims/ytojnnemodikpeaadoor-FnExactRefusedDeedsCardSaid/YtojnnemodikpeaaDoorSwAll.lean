/-
  The switchboard: doAll.
-/
import Derived.Test.YtojnnemodikpeaaDoorSwAny
namespace Go.Proofs.YtojnnemodikpeaaDoor
open Go.RowKit Go.Conc
set_option linter.unusedVariables false
/-- The switchboard stands where its own kinds of blocks stand. -/
theorem SwOk.kept {w w' : World} {base : Nat} {S : Sw} {ls : List Ln} (h : SwOk w base S ls)
    (k : ∀ (b : Nat) (o : Obj), w.heap[b]? = some o → (∀ cs fz, o ≠ .cells cs 9 fz) → w'.heap[b]? = some o) : SwOk w' base S ls := by
  obtain ⟨g1, arr, g2, _⟩ := row_blk h.lines
  obtain ⟨q1, cps, ⟨es, clk, e1, e2⟩, q4⟩ := h.closed
  obtain ⟨t1, tps, ⟨es2, clk2, f1, f2⟩, t3, t4⟩ := h.taken
  refine ⟨k _ _ h.st (by simp), h.sb, row_at h.lines ((k _ _ g2 (by simp)).trans g2.symm), h.len, h.head, fun i c l hc hl => ?_, h.nodup, ⟨q1, cps, ⟨es, clk, k _ _ e1 (by simp), e2⟩, q4⟩, ⟨t1, tps, ⟨es2, clk2, k _ _ f1 (by simp), f2⟩, fun i c l hc hl => ?_, t4⟩, h.ne⟩
  · obtain ⟨d1, d2, s, r, hd⟩ := h.chans i c l hc hl
    exact ⟨d1, d2, s, r, k _ _ hd (by simp)⟩
  · rcases t3 i c l hc hl with hx | ⟨g, n, cc, x1, x2⟩
    · exact .inl hx
    · obtain ⟨_, cur, k2, _⟩ := row_blk x2
      exact .inr ⟨g, n, cc, x1, row_at x2 ((k _ _ k2 (by simp)).trans k2.symm)⟩
theorem row_keepC {w w' : World} {base g n c : Nat} {xs : List Value} (h : w.ownsRow base 9 1 (.slice (some ⟨g, 0, none⟩) n c) n xs) (k : KeepC w w') : w'.ownsRow base 9 1 (.slice (some ⟨g, 0, none⟩) n c) n xs := by
  obtain ⟨_, cs, k2, _⟩ := row_blk h
  exact row_at h ((k _ _ _ _ k2 (by decide)).trans k2.symm)
theorem make_strings (n : Nat) (hn : n ≤ 1048576) : ∃ cs : Array Value, cs.size = n ∧ ∀ w : World, (Instr.makeSlice 38 (.int .i64 0) (.int .i64 (n : Int))).run Tryd.prog w = .ok (.slice (some ⟨w.heap.size, 0, none⟩) 0 n) (w.alloc (.cells cs 9)) := by
  obtain ⟨i, hi, hz, hs, hb⟩ := info_parts info_string
  refine ⟨madeCells (Value.cells (.string ⟨#[]⟩)) (n * 1), by rw [size_madeCells]; omega, fun w => ?_⟩
  have := run_make (P := Tryd.prog) w 38 9 i _ Tryd.underlying38 hi hz .i64 .i64 0 n (by omega) (by omega) (by rw [hb]; omega) (by omega)
  rw [hs] at this
  exact this
theorem row_cap {E : Nat} {w : World} {base g c : Nat} {cs : Array Value} (hb : base ≤ g) (hg : w.heap[g]? = some (.cells cs E)) (hc : cs.size = c) (hm : c ≤ maxLen) : w.ownsRow base E 1 (.slice (some ⟨g, 0, none⟩) 0 c) 0 [] :=
  ⟨rfl, .inr ⟨g, c, cs, rfl, hb, hg, Nat.zero_le _, hm, by omega, by simp⟩⟩
set_option maxRecDepth 20000 in
set_option maxHeartbeats 4000000 in
theorem doAll_any {w : World} {base : Nat} {S : Sw} {rooms : List Int} {ds : List DeedD} (h : SwOk w base S (openF rooms)) (hw : base ≤ w.heap.size) (hr : S.cs.length = rooms.length) (hd : deedsB rooms ds = true) {lo2 hi2 m c2 : Nat} {A2 : Option Addr} (h2 : Slc w lo2 hi2 3 A2 m c2 (deeds ds)) (hlo : hi2 ≤ base)
    (htab : ∀ w', Below base w w' → Lib.TabIs Tryd.prog w' "internal/strconv.uint64pow10" .u64 Lib.pow10Tab) :
    Calls Tryd.prog 64 #[.pointer (some ⟨S.sp, 0, none⟩), .slice A2 m c2] w fun e w' =>
      ∃ g c, e = .returned (.slice (some ⟨g, 0, none⟩) m c) ∧ w'.ownsRow w.heap.size 9 1 (.slice (some ⟨g, 0, none⟩) m c) m (txts (runF rooms ds).2) ∧ SwOk w' base S (runF rooms ds).1 ∧ Below base w w' := by
  obtain ⟨⟨r1, r6⟩, hrr, d60, hdp⟩ := deedsB_of hd
  have hlm := h2.deedLen
  have hm60 : m ≤ 60 := by omega
  have HDP := Lib.hid hdp
  have HSM := Lib.hid (runF_small hdp)
  have HLM := Lib.hid hlm
  obtain ⟨cs0, hcs0, hmk⟩ := make_strings m (by omega)
  obtain ⟨i0, hi0, hz0, hz1, hz2⟩ := info_parts info_string
  have HI := Lib.hid (And.intro hi0 (And.intro hz0 (And.intro hz1 hz2)))
  have HT := Lib.hid (And.intro htab (And.intro hr r6))
  have HS := Lib.hid h
  have HC0 := Lib.hid hcs0
  have hmw := hmk w
  have hmz : (m : Int) ≤ 60 := by omega
  clear hi0 hz0 hz1 hz2 hdp hd hlm hcs0 hrr h htab hr r1 r6 d60 hmk
  go_enter Tryd.func64, Tryd.ntmps64
  go_wp2
  go_loopw [5, 13] (fun v i wr => ∃ (k g c : Nat), k ≤ m ∧ i = .int .i64 k ∧ v = .slice (some ⟨g, 0, none⟩) k c ∧ wr.ownsRow w.heap.size 9 1 (.slice (some ⟨g, 0, none⟩) k c) k (txts (runF rooms (ds.take k)).2) ∧ SwOk wr base S (runF rooms (ds.take k)).1 ∧ Below base w wr) (fun _ i _ => m - (intOf i).toNat)
  case atStart =>
    refine ⟨0, w.heap.size, m, Nat.zero_le _, rfl, rfl, ?_, ?_, ?_⟩
    · exact row_cap (Nat.le_refl _) (heap_alloc_new _ _) HC0.out (by unfold maxLen; omega)
    · exact HS.out.below (below_al (Below.refl _ _) _)
    · exact (below_al (Below.refl _ _) _).mono hw
  case round =>
    obtain ⟨k, g, c, hk, rfl, rfl, ho, hsw, B⟩ := hrel
    have HO := Lib.hid (And.intro ho (And.intro hsw B))
    by_cases hlt : k < m
    · have h2' := (h2.wide (Nat.zero_le _) hlo).keep (w' := wr) B.size (fun b _ q _ => B.block b q)
      obtain ⟨b, off, d, hA, _, _, h3, hxk, hv0, hv1, hv2⟩ := h2'.deedAt hlt
      subst hA
      have p := HDP.out d (List.mem_of_getElem? hxk)
      have hL : d.a.toNat < (runF rooms (ds.take k)).1.length := by
        have := (runF_len rooms (ds.take k)).1
        have := p.2.1
        have := p.2.2.1
        omega
      obtain ⟨l, hl⟩ : ∃ l, (runF rooms (ds.take k)).1[d.a.toNat]? = some l := ⟨_, List.getElem?_eq_getElem hL⟩
      have hfit := HSM.out k l (List.mem_of_getElem? hl)
      have HD := Lib.hid (And.intro p (And.intro hl (And.intro (show LnFit l from ⟨by omega, by omega, hfit.2.2⟩) hxk)))
      have i0' : (0 : Int) ≤ (k : Int) := by omega
      have i1 : (k : Int) < (m : Int) := by omega
      have zw := B.size
      obtain ⟨hi0, hz0, hz1, hz2⟩ := HI.out
      have HH := Lib.hid hi0
      obtain ⟨D, hD⟩ : ∃ D, D = doneF l d := ⟨_, rfl⟩
      have HDD := Lib.hid hD
      clear ho hsw B h2' h2 p hL hl hfit hxk hi0 hD hmw
      obtain ⟨s, x, y⟩ := d
      have hb1 : ∀ o, Below base w (wr.alloc o) := fun o => HO.out.2.2.trans ((below_al (Below.refl _ _) o).mono (Nat.le_trans hw zw))
      have HB1 := Lib.hid hb1
      have hwz : base ≤ wr.heap.size := Nat.le_trans hw zw
      clear hb1
      go_wp2_with (first
        | (go_at_call 87; refine (do_any (d := ⟨s, x, y⟩) (HO.out.2.1.below (below_al (Below.refl _ _) _)) ?c1 (by rw [HT.out.2.1]; exact HD.out.1) ?c2 HD.out.2.1 HD.out.2.2.1 (fun w' hb => HT.out.1 w' ((HB1.out _).trans hb))).mono ?_; (case c1 => simp; omega); (case c2 => have := HT.out.2.2; have := HT.out.2.1; omega); rintro e w1 ⟨rfl, hs1, hb1, hk1⟩; have HS1 := Lib.hid (And.intro hs1 (And.intro hb1 hk1)); have z1 := hb1.size; simp only [World.size_alloc] at z1; rw [← HDD.out]; clear hs1 hb1 hk1)
        | (at_builtin; refine wpList_append_lies _ rfl (.tmp 17) (.tmp 21) 38 rfl w.heap.size 9 i0 (.string ⟨#[]⟩) 1 16 Tryd.underlying38 HH.out hz0 hz1 hz2 rfl (by decide) (.slice (some ⟨g, 0, none⟩) k c) k (txts (runF rooms (ds.take k)).2) rfl ?c1 ⟨_, 0, none⟩ 1 1 [.string ⟨D.2.toArray⟩] rfl rfl ?c3 ?c4 (by decide) ?c5 ?c6 ?c2 _ rfl ?_; (case c3 => exact cell_one_new _ _ _); (case c4 => simp [Value.oneCell']); (case c5 => unfold maxLen; omega); (case c6 => omega); (case c1 => exact row_below' (row_keepC (row_below' HO.out.1 (below_al (Below.refl _ _) _)) HS1.out.2.2) (below_al (Below.refl _ _) _)); (case c2 => simp; omega); intro g2 c2n w2 hown2 hgr2 hat2 hlt2; have HO2 := Lib.hid hown2; have HG2 := Lib.hid hgr2; have HAT := Lib.hid hat2; clear hown2 hgr2 hat2))
      go_roundw
      case rel =>
        have hst := runF_take (rooms := rooms) HD.out.2.2.2
        have hge : (runF rooms (ds.take k)).1.getD x.toNat ⟨0, [], false, []⟩ = l := by rw [List.getD_eq_getElem?_getD, show (runF rooms (ds.take k)).1[x.toNat]? = some l from HD.out.2.1]; rfl
        have hst2 : runF rooms (ds.take (k + 1)) = ((runF rooms (ds.take k)).1.set x.toNat D.1, (runF rooms (ds.take k)).2 ++ [D.2]) := by rw [hst]; unfold stepF; rw [hge, ← HDD.out]
        refine ⟨k + 1, g2, c2n, by omega, by go_num, rfl, ?_, ?_, ?_⟩
        · rw [hst2]; simp only; rw [txts_snoc]; exact HO2.out
        · rw [hst2]
          have hs1 := HS1.out.1
          rw [← HDD.out] at hs1
          refine (hs1.below (below_al (Below.refl _ _) (.cells #[.string ⟨D.2.toArray⟩] 9))).kept fun b o hb hne => ?_
          refine (HG2.out.block b (blk_lt hb) fun e => ?_).trans hb
          have e : b = g := by simpa [Value.ownBlock] using e
          subst e
          obtain ⟨_, cs, k2, _⟩ := row_blk (row_below' (row_keepC (row_below' HO.out.1 (below_al (Below.refl _ _) _)) HS1.out.2.2) (below_al (Below.refl _ _) (.cells #[.string ⟨D.2.toArray⟩] 9)))
          rw [hb] at k2; injection k2 with k2; exact hne _ _ k2
        · refine ((HB1.out _).trans HS1.out.2.1).trans ?_
          have hgr := HG2.out
          obtain ⟨hg, _⟩ := row_blk HO.out.1
          exact ⟨hgr.os, hgr.tape, hgr.output, by have := hgr.size; rw [World.size_alloc] at this; omega, fun i hi => (hgr.block i (by rw [World.size_alloc]; omega) (fun e => by simp [Value.ownBlock] at e; omega)).trans (Below.heap_alloc _ _ _ (by omega))⟩
      case measure => simp [intOf]; omega
    · have e : k = m := by omega
      subst e
      go_wp2
      go_ret
      have hs := HO.out
      rw [List.take_of_length_le (Nat.le_of_eq HLM.out)] at hs
      exact ⟨g, c, rfl, hs.1, hs.2.1, hs.2.2⟩
end Go.Proofs.YtojnnemodikpeaaDoor
