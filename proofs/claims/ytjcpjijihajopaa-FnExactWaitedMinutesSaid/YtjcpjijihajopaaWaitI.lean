/-
  The program's WaitedMinutes, judged.
-/
import Derived.Test.YtjcpjijihajopaaWaitW
import Derived.Test.YtjcpjijihajopaaBusyI
set_option linter.unusedSectionVars false
set_option linter.unusedSimpArgs false
set_option linter.unusedVariables false
namespace Go.Proofs.Ytjcpjijihajopaa
open Go.RowKit Go.Mt Go.Conc Go.Tt Go.Maps
set_option linter.unusedVariables false
theorem waitI {rs : List RecD} {g5 g7 gm B : Nat} {q : Int} {wb : World} (hcl : clockB rs q = true) (n5 : g5 ≠ gm) (n7 : g7 ≠ gm) (hB : B ≤ gm ∧ B ≤ wb.heap.size) :
    EachI 39 #[.pointer (some ⟨g5, 0, none⟩), .pointer (some ⟨g7, 0, none⟩)] rs (SumsI (fun l => waitF l q) rs g5 g7 gm B q wb) := by
  obtain ⟨h60, k0, k1, hall⟩ := clockB_parts hcl
  refine ⟨fun k w T e h => ⟨h.c5, h.c7, h.m, h.size, h.old⟩, fun k w cs T h => ?_, fun k w d hd h => ?_⟩
  · obtain ⟨D, h1, h2, h3⟩ := h.m
    have hz := h.size
    exact ⟨blk_alloc h.c5 _, blk_alloc h.c7 _, ⟨D, h1.alloc _, h2, h3⟩, by rw [size_push]; omega, fun b hb => (heap_push_lt (by omega)).trans (h.old b hb)⟩
  · obtain ⟨D, h1, h2, h3⟩ := h.m
    obtain ⟨r1, r2⟩ := hall d (List.mem_of_getElem? hd)
    have hrt := recOk_times r1 r2 k1
    have hut := until_times r1 r2 k1
    have hs := sumR_bound (waitF_bound (l := d.c) hcl) k
    have hk : k < rs.length := (List.getElem?_eq_some_iff.1 hd).1
    have key := waited1_any d q (sumR (waitF d.c q) (rs.take k)) g5 g7 gm k D w h.c5 h.c7 h1 (by omega) n5 n7 (by omega) (h3 d.c) (by omega)
    refine key.mono ?_
    rintro e w' ⟨rfl, hm, hg⟩
    refine ⟨_, rfl, (hg.block _ (blk_lt h.c5) (fun e => n5 (by injection e))).trans h.c5, (hg.block _ (blk_lt h.c7) (fun e => n7 (by injection e))).trans h.c7, ⟨_, hm, h2.put _ _, fun l => ?_⟩, Nat.le_trans h.size hg.size, fun b hb => (hg.block b (by have := h.size; omega) (fun e => by injection e with e; omega)).trans (h.old b hb)⟩
    rw [sumR_succ hd]
    by_cases e : l = d.c
    · subst e
      rw [atKey_put_same h2 (show WideAt.IsKeyLit (.int .i64 d.c) from True.intro)]
      unfold waitF
      rw [if_pos rfl]
    · rw [atKey_put_other (by intro h; injection h with _ h; exact e h), h3 l]
      unfold waitF
      rw [if_neg (fun h => e h.symm), Int.add_zero]
noncomputable def ops4W : Array Oper := match rWM4 with | .region _ ops _ => ops | _ => #[]
theorem rWM4_eq : rWM4 = .region 4 ops4W false := rfl
theorem ops4W_range : List.range ops4W.size = [0, 1, 2] := rfl
end Go.Proofs.Ytjcpjijihajopaa
