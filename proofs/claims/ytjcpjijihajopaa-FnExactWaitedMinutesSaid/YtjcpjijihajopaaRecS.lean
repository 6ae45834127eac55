/-
  Slices of records: copied, compared, measured.
-/
import Derived.Test.YtjcpjijihajopaaRecD
import Derived.Test.YtjcpjijihajopaaRec
import Derived.Deep.RegionHeld3
import Derived.Laws.StructEq
set_option linter.unusedSectionVars false
set_option linter.unusedSimpArgs false
set_option linter.unusedVariables false
namespace Go.Proofs.Ytjcpjijihajopaa
open Go.RowKit
set_option linter.unusedVariables false
theorem recs_set {ds : List RecD} {k : Nat} {d : RecD} {cs : Array Value} (h : ds[k]? = some d) (hs : k * 7 + 7 ≤ cs.size) (hc : ∀ j, j < k * 7 → cs[j]? = (recs ds)[j]?) :
    ∀ j, j < (k + 1) * 7 → (((((((cs.setIfInBounds (k * 7) (.int .i64 d.c)).setIfInBounds (k * 7 + 1) (.int .i64 d.l)).setIfInBounds (k * 7 + 2) (.int .i64 d.o)).setIfInBounds (k * 7 + 3) (.int .i64 d.f)).setIfInBounds (k * 7 + 4) (.int .i64 d.h)).setIfInBounds (k * 7 + 5) (.int .i64 d.t)).setIfInBounds (k * 7 + 6) (.string d.e))[j]? = (recs ds)[j]? := by
  intro j hj
  obtain ⟨g0, g1, g2, g3, g4, g5, g6⟩ := recs_get h
  by_cases j6 : j = k * 7 + 6
  · subst j6; rw [Array.getElem?_setIfInBounds_self_of_lt (by first | omega | (simp; omega))]; exact g6.symm
  rw [Array.getElem?_setIfInBounds_ne (by omega)]
  by_cases j5 : j = k * 7 + 5
  · subst j5; rw [Array.getElem?_setIfInBounds_self_of_lt (by first | omega | (simp; omega))]; exact g5.symm
  rw [Array.getElem?_setIfInBounds_ne (by omega)]
  by_cases j4 : j = k * 7 + 4
  · subst j4; rw [Array.getElem?_setIfInBounds_self_of_lt (by first | omega | (simp; omega))]; exact g4.symm
  rw [Array.getElem?_setIfInBounds_ne (by omega)]
  by_cases j3 : j = k * 7 + 3
  · subst j3; rw [Array.getElem?_setIfInBounds_self_of_lt (by first | omega | (simp; omega))]; exact g3.symm
  rw [Array.getElem?_setIfInBounds_ne (by omega)]
  by_cases j2 : j = k * 7 + 2
  · subst j2; rw [Array.getElem?_setIfInBounds_self_of_lt (by first | omega | (simp; omega))]; exact g2.symm
  rw [Array.getElem?_setIfInBounds_ne (by omega)]
  by_cases j1 : j = k * 7 + 1
  · subst j1; rw [Array.getElem?_setIfInBounds_self_of_lt (by first | omega | (simp; omega))]; exact g1.symm
  rw [Array.getElem?_setIfInBounds_ne (by omega)]
  by_cases j0 : j = k * 7
  · subst j0; rw [Array.getElem?_setIfInBounds_self_of_lt (by first | omega | (simp; omega))]; exact g0.symm
  rw [Array.getElem?_setIfInBounds_ne (by omega)]
  exact hc j (by omega)
theorem Slc.rec7 {w : World} {lo hi n c : Nat} {A : Option Addr} {ds : List RecD} (h : Slc w lo hi 7 A n c (recs ds)) {k : Nat} (hk : k < n) :
    ∃ b off d, A = some ⟨b, off, none⟩ ∧ lo ≤ b ∧ b < hi ∧ b < w.heap.size ∧ ds[k]? = some d ∧ w.cell? ⟨b, off + k * 7, none⟩ = some (.int .i64 d.c) ∧ w.cell? ⟨b, off + k * 7 + 1, none⟩ = some (.int .i64 d.l) ∧ w.cell? ⟨b, off + k * 7 + 2, none⟩ = some (.int .i64 d.o) ∧ w.cell? ⟨b, off + k * 7 + 3, none⟩ = some (.int .i64 d.f) ∧ w.cell? ⟨b, off + k * 7 + 4, none⟩ = some (.int .i64 d.h) ∧ w.cell? ⟨b, off + k * 7 + 5, none⟩ = some (.int .i64 d.t) ∧ w.cell? ⟨b, off + k * 7 + 6, none⟩ = some (.string d.e) := by
  obtain ⟨b, off, d, e, h1, h2, h3, hd, ⟨c0, c1, c2, c3, c4, c5, c6⟩⟩ := h.recAt hk
  exact ⟨b, off, d, e, h1, h2, h3, hd, c0, c1, c2, c3, c4, c5, c6⟩
set_option maxHeartbeats 1000000 in
theorem toRecord_any (d : RecD) (w : World) :
    Calls Try.prog 33 #[.agg #[.int .i64 d.c, .int .i64 d.l, .int .i64 d.o, .int .i64 d.f, .int .i64 d.h, .int .i64 d.t, .string d.e]] w fun e w' => e = .returned (.agg #[.int .i64 d.c, .int .i64 d.l, .int .i64 d.o, .int .i64 d.f, .int .i64 d.h, .int .i64 d.t, .string d.e]) ∧ Below w.heap.size w w' := by
  go_enter Try.func33, Try.ntmps33
  go_wp2
  refine bodyPost_ret (v := .agg #[.int .i64 d.c, .int .i64 d.l, .int .i64 d.o, .int .i64 d.f, .int .i64 d.h, .int .i64 d.t, .string d.e]) (by simp [results, Try.results33, go_sem]) rfl ⟨rfl, ?_⟩
  exact below_al (below_al (below_al (Below.refl _ _) _) _) _
theorem info_rec : (Try.prog.info? 50).map (fun i => (i.zero, i.size, i.bytes)) = some (some (.agg #[.int .i64 0, .int .i64 0, .int .i64 0, .int .i64 0, .int .i64 0, .int .i64 0, .string ⟨#[]⟩]), 7, 64) := by kernel_rfl
theorem make_recs (n : Nat) (hn : n ≤ 1048576) : ∃ cs : Array Value, cs.size = n * 7 ∧ ∀ w : World, (Instr.makeSlice 25 (.int .i64 (n : Int)) (.int .i64 (n : Int))).run Try.prog w = .ok (.slice (some ⟨w.heap.size, 0, none⟩) n n) (w.alloc (.cells cs 50)) := by
  obtain ⟨i, hi, hz, hs, hb⟩ := info_parts info_rec
  refine ⟨madeCells (Value.cells (.agg #[.int .i64 0, .int .i64 0, .int .i64 0, .int .i64 0, .int .i64 0, .int .i64 0, .string ⟨#[]⟩])) (n * 7), size_madeCells _ _, fun w => ?_⟩
  have := run_make (P := Try.prog) w 25 50 i _ Try.underlying25 hi hz .i64 .i64 n n (by omega) (Int.le_refl _) (by rw [hb]; omega) (by omega)
  rw [hs] at this
  simpa using this
/-- A new slice of records, and its block holds them alone. -/
def NewR (w : World) (ds : List RecD) (e : Ending) (w' : World) : Prop :=
  ∃ b n cs, e = .returned (.slice (some ⟨b, 0, none⟩) n n) ∧ n = ds.length ∧ w.heap.size ≤ b ∧ w'.heap[b]? = some (.cells cs 50) ∧ cs.toList = recs ds ∧ OwnV 50 7 w' w.heap.size w'.heap.size (some ⟨b, 0, none⟩) n n (recs ds) ∧ Below w.heap.size w w'
set_option maxHeartbeats 1000000 in
theorem toRecordS_any (lo hi n c : Nat) (A : Option Addr) (ds : List RecD) (w : World) (h : Slc w lo hi 7 A n c (recs ds)) (hn : n ≤ 1048576) :
    Calls Try.prog 11 #[.slice A n c] w (NewR w ds) := by
  obtain ⟨cs0, hs0, hmk⟩ := make_recs n hn
  have hlen := h.recLen
  have HS0 := Lib.hid hs0
  have HL := Lib.hid hlen
  clear hs0 hlen
  go_enter Try.func11, Try.ntmps11
  go_wp2
  go_loopw [4] (fun i wr => ∃ k : Nat, k ≤ n ∧ i = .int .i64 k ∧ Below w.heap.size w wr ∧ ∃ cs : Array Value, wr.heap[w.heap.size]? = some (.cells cs 50) ∧ cs.size = n * 7 ∧ ∀ j, j < k * 7 → cs[j]? = (recs ds)[j]?) (fun i _ => n - (intOf i).toNat)
  case atStart => exact ⟨0, Nat.zero_le _, rfl, below_al (Below.refl _ _) _, cs0, heap_alloc_new _ _, HS0.out, fun j hj => absurd hj (by omega)⟩
  case round =>
    obtain ⟨k, hk, rfl, B, cs, hb, hsz, hcs⟩ := hrel
    have HS := Lib.hid hsz
    have HC := Lib.hid hcs
    have HB := Lib.hid hb
    have hz := blk_lt hb
    clear hsz hcs hb
    by_cases hlt : k < n
    · obtain ⟨b, off, d, rfl, _, _, h3, hxk, hv0, hv1, hv2, hv3, hv4, hv5, hv6⟩ := (h.below B).rec7 hlt
      have HX := Lib.hid hxk
      clear hxk
      go_wp2_with fail
      refine (toRecord_any d _).mono ?_
      rintro e w1 ⟨rfl, b1⟩
      obtain ⟨hb1, z1⟩ := blk_below b1 HB.out
      have B1 := below_step B b1
      have e0 := blk_cell hb1 (k * 7)
      have e1 := blk_cell hb1 (k * 7 + 1)
      have e2 := blk_cell hb1 (k * 7 + 2)
      have e3 := blk_cell hb1 (k * 7 + 3)
      have e4 := blk_cell hb1 (k * 7 + 4)
      have e5 := blk_cell hb1 (k * 7 + 5)
      have e6 := blk_cell hb1 (k * 7 + 6)
      have hf := blk_frozen' hb1
      rw [Array.getElem?_eq_getElem (by rw [HS.out]; omega)] at e0 e1 e2 e3 e4 e5 e6
      have HB1 := Lib.hid hb1
      clear hb1 b1 h hv0 hv1 hv2 hv3 hv4 hv5 hv6
      go_wp2
      go_roundw
      case rel => exact ⟨k + 1, by omega, by go_num, ((((((B1.setCell (Nat.le_refl _) _).setCell (Nat.le_refl _) _).setCell (Nat.le_refl _) _).setCell (Nat.le_refl _) _).setCell (Nat.le_refl _) _).setCell (Nat.le_refl _) _).setCell (Nat.le_refl _) _, ((((((cs.setIfInBounds (k * 7) (.int .i64 d.c)).setIfInBounds (k * 7 + 1) (.int .i64 d.l)).setIfInBounds (k * 7 + 2) (.int .i64 d.o)).setIfInBounds (k * 7 + 3) (.int .i64 d.f)).setIfInBounds (k * 7 + 4) (.int .i64 d.h)).setIfInBounds (k * 7 + 5) (.int .i64 d.t)).setIfInBounds (k * 7 + 6) (.string d.e), blk_setCell (blk_setCell (blk_setCell (blk_setCell (blk_setCell (blk_setCell (blk_setCell HB1.out _) _) _) _) _) _) _, by simp [HS.out], fun j hj => recs_set HX.out (by rw [HS.out]; omega) HC.out j hj⟩
      case measure => simp [intOf]; omega
    · have e : k = n := by omega
      subst e
      clear h
      go_wp2
      go_ret
      have ho := ownV_made HB.out hz HS.out (Nat.le_refl _) (by unfold maxLen; omega) (by rw [recs_len, HL.out]) HC.out
      refine ⟨_, k, cs, rfl, HL.out.symm, Nat.le_refl _, HB.out, ?_, ho, B⟩
      apply List.ext_getElem?
      intro j
      rcases Nat.lt_or_ge j (k * 7) with hj | hj
      · rw [← HC.out j hj]; simp
      · rw [List.getElem?_eq_none (by simp [HS.out]; exact hj), List.getElem?_eq_none (by rw [recs_len, HL.out]; exact hj)]
set_option maxHeartbeats 2000000 in
theorem eqRecord_any (d e : RecD) (w : World) :
    Calls Try.prog 38 #[.agg #[.int .i64 d.c, .int .i64 d.l, .int .i64 d.o, .int .i64 d.f, .int .i64 d.h, .int .i64 d.t, .string d.e], .agg #[.int .i64 e.c, .int .i64 e.l, .int .i64 e.o, .int .i64 e.f, .int .i64 e.h, .int .i64 e.t, .string e.e]] w fun x w' => x = .returned (.bool (d == e)) ∧ Below w.heap.size w w' := by
  obtain ⟨x0, x1, x2, x3, x4, x5, x6⟩ := d
  obtain ⟨y0, y1, y2, y3, y4, y5, y6⟩ := e
  go_enter Try.func38, Try.ntmps38
  go_wp2
  all_goals go_ret
  all_goals refine ⟨ret_bool ?_, below_al (below_al (Below.refl _ _) _) _⟩
  all_goals first
    | (symm; rw [beq_eq_false_iff_ne]; intro h; injection h with h1 h2 h3 h4 h5 h6 h7; subst h1 h2 h3 h4 h5 h6 h7; simp_all; done)
    | (symm; rw [beq_iff_eq]; obtain rfl : x6 = y6 := str_eq (by simp_all); simp_all; done)
end Go.Proofs.Ytjcpjijihajopaa
