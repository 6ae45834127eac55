/-
  The draws of chapter 8 for one charge: l8Tariff.
-/
import Derived.Test.YtgcnhojiaaonmaaDrawB
import Derived.Test.YtgcnhojiaaonmaaLawsA
namespace Go.Proofs.Ytgcnhojiaaonmaa
open Go.RowKit
set_option linter.unusedVariables false
set_option maxHeartbeats 2000000 in
theorem l8Tariff_any (g q n c : Nat) (A : Option Addr) (w : World) (h : Rd w g A n c q) (hq : q < 999000000) :
    Calls Try.prog 54 #[.pointer (some ⟨g, 0, none⟩)] w fun e w' => ∃ f s p : Int, e = .returned (.agg #[.int .i64 f, .int .i64 s, .int .i64 p]) ∧ Rd w' g A n c (q + 6) ∧ w.grownBy w' (some g) := by
  have hgl := h.gblt
  go_enter Try.func54, Try.ntmps54
  go_wp2_with fail
  refine (pick_any g q n c A _ _ (h.alloc _) (by omega) (by omega) (by omega)).mono ?_
  rintro e w1 ⟨r1, rfl, ⟨a1, b1⟩, h1, hg1⟩
  have s1 := hg1.size
  try simp only [World.size_alloc] at s1
  obtain ⟨kr_1, zr_1⟩ := blk_grown hg1 (by first | exact heap_alloc_new _ _ | exact blk_alloc (heap_alloc_new _ _) _ | exact blk_alloc (blk_alloc (heap_alloc_new _ _) _) _) (by first | omega | (simp; omega))
  have cr_1 := blk_cell kr_1
  have fr_1 := blk_frozen kr_1
  have B1 := gb_trans (a := w) (by first | exact World.grownBy.refl _ _ | exact gb_al (World.grownBy.refl _ _) _ | exact gb_al (gb_al (World.grownBy.refl _ _) _) _ | exact gb_al (gb_al (gb_al (World.grownBy.refl _ _) _) _) _ | exact gb_al (gb_al (gb_al (gb_al (World.grownBy.refl _ _) _) _) _) _ | exact gb_al (gb_al (gb_al (gb_al (gb_al (World.grownBy.refl _ _) _) _) _) _) _) hg1
  clear hg1
  go_wp2_with fail
  refine (pick_any g (q + 1) n c A _ _ h1 (by omega) (by omega) (by omega)).mono ?_
  rintro e w2 ⟨r2, rfl, ⟨a2, b2⟩, h2, hg2⟩
  have s2 := hg2.size
  try simp only [World.size_alloc] at s2
  obtain ⟨kr_2, zr_2⟩ := blk_grown hg2 (by first | exact kr_1 | exact blk_alloc (kr_1) _ | exact blk_alloc (blk_alloc (kr_1) _) _ | exact blk_alloc (blk_alloc (blk_alloc (kr_1) _) _) _ | exact blk_alloc (blk_alloc (blk_alloc (blk_alloc (kr_1) _) _) _) _) (by first | omega | (simp; omega))
  have cr_2 := blk_cell kr_2
  have fr_2 := blk_frozen kr_2
  have B2 := gb_trans (a := w) (by first | exact B1 | exact gb_al (B1) _ | exact gb_al (gb_al (B1) _) _ | exact gb_al (gb_al (gb_al (B1) _) _) _ | exact gb_al (gb_al (gb_al (gb_al (B1) _) _) _) _ | exact gb_al (gb_al (gb_al (gb_al (gb_al (B1) _) _) _) _) _) hg2
  clear hg2 B1 kr_1 cr_1 zr_1 fr_1
  go_wp2_with fail
  refine (pick_any g (q + 2) n c A _ _ h2 (by omega) (by omega) (by omega)).mono ?_
  rintro e w3 ⟨r3, rfl, ⟨a3, b3⟩, h3, hg3⟩
  have s3 := hg3.size
  try simp only [World.size_alloc] at s3
  obtain ⟨kr_3, zr_3⟩ := blk_grown hg3 (by first | exact kr_2 | exact blk_alloc (kr_2) _ | exact blk_alloc (blk_alloc (kr_2) _) _ | exact blk_alloc (blk_alloc (blk_alloc (kr_2) _) _) _ | exact blk_alloc (blk_alloc (blk_alloc (blk_alloc (kr_2) _) _) _) _) (by first | omega | (simp; omega))
  have cr_3 := blk_cell kr_3
  have fr_3 := blk_frozen kr_3
  have B3 := gb_trans (a := w) (by first | exact B2 | exact gb_al (B2) _ | exact gb_al (gb_al (B2) _) _ | exact gb_al (gb_al (gb_al (B2) _) _) _ | exact gb_al (gb_al (gb_al (gb_al (B2) _) _) _) _ | exact gb_al (gb_al (gb_al (gb_al (gb_al (B2) _) _) _) _) _) hg3
  clear hg3 B2 kr_2 cr_2 zr_2 fr_2
  go_wp2_with fail
  refine (num_any g (q + 3) n c _ 0 4 4 A _ (h3.alloc _) (by omega) (by omega) (by omega) (by simp) (by omega) (cells_of_blk (heap_alloc_new _ _) 4 (fun j hj => by rcases j with _ | _ | _ | _ | j <;> first | exact ⟨_, rfl⟩ | omega))).mono ?_
  rintro e w4 ⟨r4, rfl, _, h4, hg4⟩
  have s4 := hg4.size
  try simp only [World.size_alloc] at s4
  obtain ⟨kr_4, zr_4⟩ := blk_grown hg4 (by first | exact kr_3 | exact blk_alloc (kr_3) _ | exact blk_alloc (blk_alloc (kr_3) _) _ | exact blk_alloc (blk_alloc (blk_alloc (kr_3) _) _) _ | exact blk_alloc (blk_alloc (blk_alloc (blk_alloc (kr_3) _) _) _) _) (by first | omega | (simp; omega))
  have cr_4 := blk_cell kr_4
  have fr_4 := blk_frozen kr_4
  have B4 := gb_trans (a := w) (by first | exact B3 | exact gb_al (B3) _ | exact gb_al (gb_al (B3) _) _ | exact gb_al (gb_al (gb_al (B3) _) _) _ | exact gb_al (gb_al (gb_al (gb_al (B3) _) _) _) _ | exact gb_al (gb_al (gb_al (gb_al (gb_al (B3) _) _) _) _) _) hg4
  clear hg4 B3 kr_3 cr_3 zr_3 fr_3
  go_wp2_with fail
  refine (pick_any g (q + 4) n c A _ _ (h4.alloc _) (by omega) (by omega) (by omega)).mono ?_
  rintro e w5 ⟨r5, rfl, ⟨a5, b5⟩, h5, hg5⟩
  have s5 := hg5.size
  try simp only [World.size_alloc] at s5
  obtain ⟨kr_5, zr_5⟩ := blk_grown hg5 (by first | exact kr_4 | exact blk_alloc (kr_4) _ | exact blk_alloc (blk_alloc (kr_4) _) _ | exact blk_alloc (blk_alloc (blk_alloc (kr_4) _) _) _ | exact blk_alloc (blk_alloc (blk_alloc (blk_alloc (kr_4) _) _) _) _) (by first | omega | (simp; omega))
  have cr_5 := blk_cell kr_5
  have fr_5 := blk_frozen kr_5
  obtain ⟨kt_5, zt_5⟩ := blk_grown hg5 (by first | exact heap_alloc_new _ _ | exact blk_alloc (heap_alloc_new _ _) _ | exact blk_alloc (blk_alloc (heap_alloc_new _ _) _) _) (by first | omega | (simp; omega))
  have ct_5 := blk_cell kt_5
  have ft_5 := blk_frozen kt_5
  have B5 := gb_trans (a := w) (by first | exact B4 | exact gb_al (B4) _ | exact gb_al (gb_al (B4) _) _ | exact gb_al (gb_al (gb_al (B4) _) _) _ | exact gb_al (gb_al (gb_al (gb_al (B4) _) _) _) _ | exact gb_al (gb_al (gb_al (gb_al (gb_al (B4) _) _) _) _) _) hg5
  clear hg5 B4 kr_4 cr_4 zr_4 fr_4
  by_cases e0 : r5 = 0
  · subst e0
    go_wp2_with fail
    refine (num_any g (q + 5) n c _ 0 3 3 A _ (h5.alloc _) (by omega) (by omega) (by omega) (by simp) (by omega) (cells_of_blk (heap_alloc_new _ _) 3 (fun j hj => by rcases j with _ | _ | _ | j <;> first | exact ⟨_, rfl⟩ | omega))).mono ?_
    rintro e w6 ⟨r6, rfl, _, h6, hg6⟩
    have s6 := hg6.size
    try simp only [World.size_alloc] at s6
    obtain ⟨kr_6, zr_6⟩ := blk_grown hg6 (by first | exact kr_5 | exact blk_alloc (kr_5) _ | exact blk_alloc (blk_alloc (kr_5) _) _ | exact blk_alloc (blk_alloc (blk_alloc (kr_5) _) _) _ | exact blk_alloc (blk_alloc (blk_alloc (blk_alloc (kr_5) _) _) _) _) (by first | omega | (simp; omega))
    have cr_6 := blk_cell kr_6
    have fr_6 := blk_frozen kr_6
    obtain ⟨kt_6, zt_6⟩ := blk_grown hg6 (by first | exact kt_5 | exact blk_alloc (kt_5) _ | exact blk_alloc (blk_alloc (kt_5) _) _ | exact blk_alloc (blk_alloc (blk_alloc (kt_5) _) _) _ | exact blk_alloc (blk_alloc (blk_alloc (blk_alloc (kt_5) _) _) _) _) (by first | omega | (simp; omega))
    have ct_6 := blk_cell kt_6
    have ft_6 := blk_frozen kt_6
    have B6 := gb_trans (a := w) (by first | exact B5 | exact gb_al (B5) _ | exact gb_al (gb_al (B5) _) _ | exact gb_al (gb_al (gb_al (B5) _) _) _ | exact gb_al (gb_al (gb_al (gb_al (B5) _) _) _) _ | exact gb_al (gb_al (gb_al (gb_al (gb_al (B5) _) _) _) _) _) hg6
    clear hg6 B5 kr_5 cr_5 zr_5 fr_5 kt_5 ct_5 zt_5 ft_5
    go_wp2
    refine bodyPost_ret (v := .agg #[.int .i64 r6, .int .i64 (1 + r2), .int .i64 r4]) (by simp [results, Try.results54, go_sem, cr_6]) rfl ⟨_, _, _, rfl, ?_, ?_⟩
    · exact (((h6.setCell (by first | omega | (simp; done) | (simp; omega)) _).setCell (by first | omega | (simp; done) | (simp; omega)) _).setCell (by first | omega | (simp; done) | (simp; omega)) _).setCell (by first | omega | (simp; done) | (simp; omega)) _
    · exact gb_set (gb_set (gb_set (gb_set B6 (by first | omega | (simp; done) | (simp; omega)) _) (by first | omega | (simp; done) | (simp; omega)) _) (by first | omega | (simp; done) | (simp; omega)) _) (by first | omega | (simp; done) | (simp; omega)) _
  by_cases e1 : r5 = 1
  · subst e1
    go_wp2_with fail
    refine (num_any g (q + 5) n c _ 0 3 3 A _ (h5.alloc _) (by omega) (by omega) (by omega) (by simp) (by omega) (cells_of_blk (heap_alloc_new _ _) 3 (fun j hj => by rcases j with _ | _ | _ | j <;> first | exact ⟨_, rfl⟩ | omega))).mono ?_
    rintro e w6 ⟨r6, rfl, _, h6, hg6⟩
    have s6 := hg6.size
    try simp only [World.size_alloc] at s6
    obtain ⟨kr_6, zr_6⟩ := blk_grown hg6 (by first | exact kr_5 | exact blk_alloc (kr_5) _ | exact blk_alloc (blk_alloc (kr_5) _) _ | exact blk_alloc (blk_alloc (blk_alloc (kr_5) _) _) _ | exact blk_alloc (blk_alloc (blk_alloc (blk_alloc (kr_5) _) _) _) _) (by first | omega | (simp; omega))
    have cr_6 := blk_cell kr_6
    have fr_6 := blk_frozen kr_6
    obtain ⟨kt_6, zt_6⟩ := blk_grown hg6 (by first | exact kt_5 | exact blk_alloc (kt_5) _ | exact blk_alloc (blk_alloc (kt_5) _) _ | exact blk_alloc (blk_alloc (blk_alloc (kt_5) _) _) _ | exact blk_alloc (blk_alloc (blk_alloc (blk_alloc (kt_5) _) _) _) _) (by first | omega | (simp; omega))
    have ct_6 := blk_cell kt_6
    have ft_6 := blk_frozen kt_6
    have B6 := gb_trans (a := w) (by first | exact B5 | exact gb_al (B5) _ | exact gb_al (gb_al (B5) _) _ | exact gb_al (gb_al (gb_al (B5) _) _) _ | exact gb_al (gb_al (gb_al (gb_al (B5) _) _) _) _ | exact gb_al (gb_al (gb_al (gb_al (gb_al (B5) _) _) _) _) _) hg6
    clear hg6 B5 kr_5 cr_5 zr_5 fr_5 kt_5 ct_5 zt_5 ft_5
    go_wp2
    refine bodyPost_ret (v := .agg #[.int .i64 r1, .int .i64 r6, .int .i64 r4]) (by simp [results, Try.results54, go_sem, cr_6]) rfl ⟨_, _, _, rfl, ?_, ?_⟩
    · exact (((h6.setCell (by first | omega | (simp; done) | (simp; omega)) _).setCell (by first | omega | (simp; done) | (simp; omega)) _).setCell (by first | omega | (simp; done) | (simp; omega)) _).setCell (by first | omega | (simp; done) | (simp; omega)) _
    · exact gb_set (gb_set (gb_set (gb_set B6 (by first | omega | (simp; done) | (simp; omega)) _) (by first | omega | (simp; done) | (simp; omega)) _) (by first | omega | (simp; done) | (simp; omega)) _) (by first | omega | (simp; done) | (simp; omega)) _
  by_cases e2 : r5 = 2
  · subst e2
    go_wp2_with fail
    refine (num_any g (q + 5) n c _ 0 2 2 A _ (h5.alloc _) (by omega) (by omega) (by omega) (by simp) (by omega) (cells_of_blk (heap_alloc_new _ _) 2 (fun j hj => by rcases j with _ | _ | _ | j <;> first | exact ⟨_, rfl⟩ | omega))).mono ?_
    rintro e w6 ⟨r6, rfl, _, h6, hg6⟩
    have s6 := hg6.size
    try simp only [World.size_alloc] at s6
    obtain ⟨kr_6, zr_6⟩ := blk_grown hg6 (by first | exact kr_5 | exact blk_alloc (kr_5) _ | exact blk_alloc (blk_alloc (kr_5) _) _ | exact blk_alloc (blk_alloc (blk_alloc (kr_5) _) _) _ | exact blk_alloc (blk_alloc (blk_alloc (blk_alloc (kr_5) _) _) _) _) (by first | omega | (simp; omega))
    have cr_6 := blk_cell kr_6
    have fr_6 := blk_frozen kr_6
    obtain ⟨kt_6, zt_6⟩ := blk_grown hg6 (by first | exact kt_5 | exact blk_alloc (kt_5) _ | exact blk_alloc (blk_alloc (kt_5) _) _ | exact blk_alloc (blk_alloc (blk_alloc (kt_5) _) _) _ | exact blk_alloc (blk_alloc (blk_alloc (blk_alloc (kt_5) _) _) _) _) (by first | omega | (simp; omega))
    have ct_6 := blk_cell kt_6
    have ft_6 := blk_frozen kt_6
    have B6 := gb_trans (a := w) (by first | exact B5 | exact gb_al (B5) _ | exact gb_al (gb_al (B5) _) _ | exact gb_al (gb_al (gb_al (B5) _) _) _ | exact gb_al (gb_al (gb_al (gb_al (B5) _) _) _) _ | exact gb_al (gb_al (gb_al (gb_al (gb_al (B5) _) _) _) _) _) hg6
    clear hg6 B5 kr_5 cr_5 zr_5 fr_5 kt_5 ct_5 zt_5 ft_5
    go_wp2
    refine bodyPost_ret (v := .agg #[.int .i64 r1, .int .i64 (1 + r2), .int .i64 r6]) (by simp [results, Try.results54, go_sem, cr_6]) rfl ⟨_, _, _, rfl, ?_, ?_⟩
    · exact (((h6.setCell (by first | omega | (simp; done) | (simp; omega)) _).setCell (by first | omega | (simp; done) | (simp; omega)) _).setCell (by first | omega | (simp; done) | (simp; omega)) _).setCell (by first | omega | (simp; done) | (simp; omega)) _
    · exact gb_set (gb_set (gb_set (gb_set B6 (by first | omega | (simp; done) | (simp; omega)) _) (by first | omega | (simp; done) | (simp; omega)) _) (by first | omega | (simp; done) | (simp; omega)) _) (by first | omega | (simp; done) | (simp; omega)) _
  · have n0 : (r5 == 0) = false := by simp; exact e0
    have n1 : (r5 == 1) = false := by simp; exact e1
    have n2 : (r5 == 2) = false := by simp; exact e2
    clear e0 e1 e2
    go_wp2
    refine bodyPost_ret (v := .agg #[.int .i64 r1, .int .i64 (1 + r2), .int .i64 r4]) (by simp [results, Try.results54, go_sem, cr_5]) rfl ⟨_, _, _, rfl, ?_, ?_⟩
    · exact (((h5.setCell (by first | omega | (simp; done) | (simp; omega)) _).setCell (by first | omega | (simp; done) | (simp; omega)) _).setCell (by first | omega | (simp; done) | (simp; omega)) _).mono (by omega)
    · exact gb_set (gb_set (gb_set B5 (by first | omega | (simp; done) | (simp; omega)) _) (by first | omega | (simp; done) | (simp; omega)) _) (by first | omega | (simp; done) | (simp; omega)) _
end Go.Proofs.Ytgcnhojiaaonmaa
