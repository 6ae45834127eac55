/-
  The program's TakenFrom.
-/
import Derived.Test.YtojnnemodikpeaaDoorImplO
namespace Go.Proofs.YtojnnemodikpeaaDoor
open Go.RowKit Go.Conc
set_option linter.unusedVariables false
theorem taken_look {w : World} {base : Nat} {S : Sw} {ls : List Ln} (h : SwOk w base S ls) {i c : Nat} {l : Ln} (hc : S.cs[i]? = some c) (hl : ls[i + 1]? = some l) :
    ∃ A n cc, (Instr.lookup 78 (.map (some S.mt)) (.chan (some c)) false).run Tryd.prog w = .ok (.slice A n cc) w ∧ OwnV 3 1 w base w.heap.size A n cc (ints l.taken) := by
  obtain ⟨_, ps, hm, hps, _⟩ := h.taken
  have hr := run_lookup_chan (P := Tryd.prog) Tryd.underlying78 und_chan (zero_ints w) (c := c) hm false
  rcases hps i c l hc hl with ⟨e1, e2⟩ | ⟨g, n, cc, e1, e2⟩
  · rw [e1] at hr
    refine ⟨none, 0, 0, hr, ?_⟩
    rw [e2]
    exact OwnV.nil w base w.heap.size
  · rw [e1] at hr
    obtain ⟨A', c', e', o⟩ := ownV_of_row e2 (by decide)
    injection e' with e3 e4 e5
    subst e3 e5
    exact ⟨_, _, _, hr, o⟩
theorem SwOk.drew {w : World} {base : Nat} {S : Sw} {ls : List Ln} (h : SwOk w base S ls) : SwOk w.drew base S ls := h.below (below_drew (Below.refl _ _))
set_option maxRecDepth 20000 in
set_option maxHeartbeats 8000000 in
theorem impl_TakenFrom (lo hi n c lo2 hi2 m c2 : Nat) (A A2 : Option Addr) (rooms : List Int) (ds : List DeedD) (line : Int) (w : World) (h : Slc w lo hi 1 A n c (ints rooms)) (h2 : Slc w lo2 hi2 3 A2 m c2 (deeds ds)) (hn : n ≤ 1048576) (hm : m ≤ 1048576) (ht : TabW w) :
    Calls Tryd.prog 21 #[.slice A n c, .slice A2 m c2, .int .i64 line] w (NewVB 3 1 w (ints (takenF rooms ds line).1) (takenF rooms ds line).2) := by
  have HT := Lib.hid ht
  have hln0 := Lib.hid h.length
  clear ht
  have hnil : ∀ {w1 : World}, Below w.heap.size w w1 → NewVB 3 1 w (ints []) false (.returned (.tuple #[.slice none 0 0, .bool false])) w1 := fun b => ⟨none, 0, 0, rfl, OwnV.nil _ _ _, b⟩
  cases hd : deedsB rooms ds with
  | false =>
    have hF : takenF rooms ds line = ([], false) := by unfold takenF; rw [hd]; rfl
    rw [hF]
    go_enter Tryd.func21, Tryd.ntmps21
    go_wp2_with (go_at_call 62; refine (impl_deedsValid _ _ _ _ _ _ _ _ _ _ rooms ds _ h h2 hn hm).mono ?_; rintro e w1 ⟨rfl, b1⟩; rw [hd])
    go_ret2
    exact hnil b1
  | true =>
    have HD := Lib.hid hd
    by_cases hb1 : line < 1
    · have hF : takenF rooms ds line = ([], false) := by
        unfold takenF
        have : inB line 1 rooms.length = false := by simp [inB]; omega
        rw [hd, this]; rfl
      rw [hF]
      clear hF
      go_enter Tryd.func21, Tryd.ntmps21
      go_wp2_with (go_at_call 62; refine (impl_deedsValid _ _ _ _ _ _ _ _ _ _ rooms ds _ h h2 hn hm).mono ?_; rintro e w1 ⟨rfl, b1⟩; rw [HD.out])
      go_ret2
      exact hnil b1
    · by_cases hb2 : (n : Int) < line
      · have hF : takenF rooms ds line = ([], false) := by
          unfold takenF
          have : inB line 1 rooms.length = false := by rw [hln0.out]; simp [inB]; omega
          rw [hd, this]; rfl
        rw [hF]
        clear hF
        go_enter Tryd.func21, Tryd.ntmps21
        go_wp2_with (go_at_call 62; refine (impl_deedsValid _ _ _ _ _ _ _ _ _ _ rooms ds _ h h2 hn hm).mono ?_; rintro e w1 ⟨rfl, b1⟩; rw [HD.out])
        go_ret2
        exact hnil b1
      · obtain ⟨i, rfl⟩ : ∃ i : Nat, line = (i : Int) + 1 := ⟨(line - 1).toNat, by omega⟩
        obtain ⟨⟨r1, r6⟩, -, -, -⟩ := deedsB_of hd
        have hin : inB ((i : Int) + 1) 1 rooms.length = true := by rw [hln0.out]; simp [inB]; omega
        have hF : takenF rooms ds ((i : Int) + 1) = (((runF rooms ds).1.getD (i + 1) ⟨0, [], false, []⟩).taken, true) := by unfold takenF; rw [hd, hin]; rfl
        rw [hF]
        clear hF hin
        have i0 : (0 : Int) ≤ (i : Int) + 1 := by omega
        go_enter Tryd.func21, Tryd.ntmps21
        go_wp2_with (first
          | (go_at_call 62; refine (impl_deedsValid _ _ _ _ _ _ _ _ _ _ rooms ds _ h h2 hn hm).mono ?_; rintro e w1 ⟨rfl, b1⟩; rw [HD.out]; have h1 := h.below b1; have h21 := h2.below b1; have HT1 := Lib.hid (HT.out.below b1))
          | (go_at_call 63; refine (new_from h1 HD.out).mono ?_; rintro e w2 ⟨S, rfl, hsw, hln, b2⟩)
          | (go_at_call 64; refine (doAll_from hsw b2 hln HD.out h21 HT1.out).mono ?_; rintro e w3 ⟨AL, cL, rfl, o3, hsw3, b3⟩; obtain ⟨c9, hc⟩ : ∃ c9, S.cs[i]? = some c9 := ⟨S.cs[i]'(by have := hln0.out; omega), List.getElem?_eq_getElem (by have := hln0.out; omega)⟩; obtain ⟨l, hl⟩ : ∃ l, (runF rooms ds).1[i + 1]? = some l := ⟨(runF rooms ds).1[i + 1]'(by have := hln0.out; have := hsw3.len; omega), List.getElem?_eq_getElem (by have := hln0.out; have := hsw3.len; omega)⟩; have ec := blk_cell hsw3.drew.st; have zs := blk_lt hsw3.st; have eg := row_cells (j := i + 1) (v := .chan (some c9)) hsw3.drew.lines (by simp [Sw.lines, hc]); have i1 : (i : Int) + 1 < (S.cs.length : Int) + 1 := (by have := hln0.out; omega); obtain ⟨AT, nT, cT, hlk, hslc⟩ := taken_look hsw3.drew hc hl; have HL := Lib.hid hl; have HLK := Lib.hid (And.intro hslc b3); clear hsw3 b3 o3 hsw hln h1 h21 h h2 hslc hl hc)
          | go_region)
        go_ret2
        have hge : (runF rooms ds).1.getD (i + 1) ⟨0, [], false, []⟩ = l := by rw [List.getD_eq_getElem?_getD, HL.out]; rfl
        rw [hge]
        exact ⟨_, _, _, rfl, HLK.out.1.from b1.size, below_drew (b1.trans (HLK.out.2.mono b1.size))⟩
end Go.Proofs.YtojnnemodikpeaaDoor
