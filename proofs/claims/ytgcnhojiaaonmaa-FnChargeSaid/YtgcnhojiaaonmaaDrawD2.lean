/-
  DrawChargeOf: some tariff and some minutes.
-/
import Derived.Test.YtgcnhojiaaonmaaDrawC
namespace Go.Proofs.Ytgcnhojiaaonmaa
open Go.RowKit
set_option linter.unusedVariables false
def DrewCharge (w : World) (e : Ending) (w' : World) : Prop := ∃ f s p m : Int, e = .returned (.tuple #[.agg #[.int .i64 f, .int .i64 s, .int .i64 p], .int .i64 m]) ∧ Below w.heap.size w w'
set_option maxHeartbeats 1000000 in
theorem DrawChargeOf_any (A : Option Addr) (n c : Nat) (w : World) (h : Code w A n c) :
    Calls Try.prog 28 #[.slice A n c] w (DrewCharge w) := by
  go_enter Try.func28, Try.ntmps28
  go_wp2_with fail
  refine (open_any _ _ _ _ (h.alloc _)).mono ?_
  rintro e w1 ⟨g, A1, n1, c1, rfl, h1, hb1, g0⟩
  obtain ⟨kr_1, zr_1⟩ := blk_below hb1 (by first | exact heap_alloc_new _ _ | exact blk_alloc (heap_alloc_new _ _) _ | exact blk_alloc (blk_alloc (heap_alloc_new _ _) _) _)
  have cr_1 := blk_cell kr_1
  have B1 := below_step (w := w) (by first | exact Below.refl _ _ | exact below_al (Below.refl _ _) _ | exact below_al (below_al (Below.refl _ _) _) _ | exact below_al (below_al (below_al (Below.refl _ _) _) _) _ | exact below_al (below_al (below_al (below_al (Below.refl _ _) _) _) _) _ | exact below_al (below_al (below_al (below_al (below_al (Below.refl _ _) _) _) _) _) _) hb1
  clear hb1
  simp only [World.size_alloc] at g0
  have hgl := h1.gblt
  go_wp2_with fail
  refine (l8Tariff_any _ _ _ _ _ _ h1 (by omega)).mono ?_
  rintro e w2 ⟨f, s, p, rfl, h2, hg2⟩
  have s2 := hg2.size
  try simp only [World.size_alloc] at s2
  obtain ⟨kr_2, zr_2⟩ := blk_grown hg2 (by first | exact kr_1 | exact blk_alloc (kr_1) _ | exact blk_alloc (blk_alloc (kr_1) _) _ | exact blk_alloc (blk_alloc (blk_alloc (kr_1) _) _) _ | exact blk_alloc (blk_alloc (blk_alloc (blk_alloc (kr_1) _) _) _) _) (by first | omega | (simp; omega))
  have cr_2 := blk_cell kr_2
  have fr_2 := blk_frozen kr_2
  have B2 := gb_trans (a := w) (by first | exact gb_below B1 _ | exact gb_al (gb_below B1 _) _ | exact gb_al (gb_al (gb_below B1 _) _) _ | exact gb_al (gb_al (gb_al (gb_below B1 _) _) _) _ | exact gb_al (gb_al (gb_al (gb_al (gb_below B1 _) _) _) _) _ | exact gb_al (gb_al (gb_al (gb_al (gb_al (gb_below B1 _) _) _) _) _) _) hg2
  clear hg2 B1 kr_1 cr_1 zr_1
  go_wp2_with fail
  refine cut_world (fun W => Rd W g A1 n1 c1 6 ∧ W.heap[w2.heap.size]? = some (.cells #[.int .i64 f, .int .i64 s, .int .i64 p] 25) ∧ W.heap[w.heap.size]? = some (.cells #[.int .i64 0, .int .i64 0, .int .i64 0] 25) ∧ w.grownBy W (some g) ∧ w2.heap.size < W.heap.size)
    ⟨h2.alloc _, heap_alloc_new _ _, blk_alloc kr_2 _, gb_al B2 _, by simp⟩ ?_
  rintro w3 ⟨h3, kt, kr, B3, z3⟩
  have et := blk_cell kt
  have er := blk_cell kr
  have fr := blk_frozen kr
  have zr := blk_lt kr
  clear h2 B2 kr_2 cr_2 fr_2 h1
  have n1' : w2.heap.size ≠ g := by omega
  have n2' : w.heap.size ≠ g := by omega
  go_region_with (first
    | (go_at_call 56; refine (pick_any g _ n1 c1 A1 _ _ (by first | exact h3 | (apply Rd.drew; exact h3)) (by omega) (by omega) (by omega)).mono ?_; rintro e w4 ⟨r3, rfl, ⟨a3, b3⟩, h3, hg3⟩; obtain ⟨kt, zt⟩ := blk_grown hg3 (by first | exact kt | exact blk_alloc kt _) (by omega); obtain ⟨kr, zr⟩ := blk_grown hg3 (by first | exact kr | exact blk_alloc kr _) (by omega); have et := blk_cell kt; have er := blk_cell kr; have fr := blk_frozen kr; have B3 := gb_trans (by first | exact B3 | exact gb_drew B3 | exact gb_drewN B3 _ | exact gb_al B3 _) hg3)
    | (go_at_call 55; refine (num_any g _ n1 c1 _ 0 7 7 A1 _ (by first | exact h3 | (apply Rd.alloc; exact h3)) (by omega) (by omega) (by omega) (by simp) (by omega) (cells_of_blk (heap_alloc_new _ _) 7 (fun j hj => by rcases j with _ | _ | _ | _ | _ | _ | _ | j <;> first | exact ⟨_, rfl⟩ | omega))).mono ?_; rintro e w4 ⟨r3, rfl, _, h3, hg3⟩; obtain ⟨kt, zt⟩ := blk_grown hg3 (by first | exact kt | exact blk_alloc kt _) (by omega); obtain ⟨kr, zr⟩ := blk_grown hg3 (by first | exact kr | exact blk_alloc kr _) (by omega); have et := blk_cell kt; have er := blk_cell kr; have fr := blk_frozen kr; have B3 := gb_trans (by first | exact B3 | exact gb_drew B3 | exact gb_drewN B3 _ | exact gb_al B3 _) hg3))
  all_goals
    have BB : Below w.heap.size w w4 := ⟨B3.os, B3.tape, B3.output, B3.size, fun i hi => B3.block i hi (by simp; omega)⟩
    go_wp2
    refine bodyPost_ret (v := .tuple #[.agg #[.int .i64 f, .int .i64 s, .int .i64 p], .int .i64 r3]) ?_ rfl ⟨_, _, _, _, rfl, ?_⟩
    · simp [results, Try.results28, go_sem, er]
    · first | exact ((BB.setCell (Nat.le_refl _) _).setCell (Nat.le_refl _) _).setCell (Nat.le_refl _) _ | trace_state
end Go.Proofs.Ytgcnhojiaaonmaa
