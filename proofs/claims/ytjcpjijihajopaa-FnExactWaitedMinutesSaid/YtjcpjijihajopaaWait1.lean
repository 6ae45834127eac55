/-
  The sums of WaitedMinutes, in a map of the call's own.
-/
import Derived.Test.YtjcpjijihajopaaRecW
import Derived.Test.YtjcpjijihajopaaBusy1
set_option linter.unusedSectionVars false
set_option linter.unusedSimpArgs false
set_option linter.unusedVariables false
namespace Go.Proofs.Ytjcpjijihajopaa
open Go.RowKit Go.Maps
set_option linter.unusedVariables false
set_option maxHeartbeats 4000000 in
set_option maxRecDepth 20000 in
theorem waited1_any (d : RecD) (q c : Int) (g5 g7 gm k : Nat) (D : DataW Unit) (w : World) (h5 : w.heap[g5]? = some (.cells #[.int .i64 q] 3)) (h7 : w.heap[g7]? = some (.cells #[.map (some gm)] 59)) (hm : SumsM w gm k D) (hk : k ≤ 1048576) (n5 : g5 ≠ gm) (n7 : g7 ≠ gm)
    (hd : -1000000 ≤ d.c ∧ d.c ≤ 1000000) (hc : D.atKey (.int .i64 d.c) (.lit (.int .i64 0)) = .lit (.int .i64 c)) (hb : -100000 ≤ c ∧ c ≤ 900000 ∧ 0 ≤ untilF q d - d.f ∧ untilF q d - d.f ≤ 3600) :
    Calls Try.prog 39 #[.agg #[.int .i64 d.c, .int .i64 d.l, .int .i64 d.o, .int .i64 d.f, .int .i64 d.h, .int .i64 d.t, .string d.e], .pointer (some ⟨g5, 0, none⟩), .pointer (some ⟨g7, 0, none⟩)] w fun e w' => e = .returned (.tuple #[]) ∧ SumsM w' gm (k + 1) (D.put (.int .i64 d.c) (.lit (.int .i64 (c + (untilF q d - d.f))))) ∧ w.grownBy w' (some gm) := by
  have hlw := wf_small hd.1 hd.2
  have hvw : (Lit.int .i64 (c + (untilF q d - d.f))).wf = true := wf_small (by omega) (by omega)
  have hlt := hm.lt
  have nr : w.heap.size ≠ gm := by omega
  obtain ⟨o, ho⟩ : ∃ o : Obj, o = .cells #[.int .i64 d.c, .int .i64 d.l, .int .i64 d.o, .int .i64 d.f, .int .i64 d.h, .int .i64 d.t, .string d.e] 50 := ⟨_, rfl⟩
  have hr : (w.alloc o).heap[w.heap.size]? = some (.cells #[.int .i64 d.c, .int .i64 d.l, .int .i64 d.o, .int .i64 d.f, .int .i64 d.h, .int .i64 d.t, .string d.e] 50) := by rw [← ho]; exact heap_alloc_new _ _
  have hm1 : SumsM (w.alloc o) gm k D := hm.alloc o
  have h51 := blk_alloc h5 o
  have h71 := blk_alloc h7 o
  have G0 : w.grownBy (w.alloc o) (some gm) := World.grownBy_alloc w o _
  clear hm h5 h7
  by_cases hh : d.h = -1
  · have HU : untilF q d = endF q d := by unfold untilF; rw [if_pos hh]
    rw [HU] at hvw hb ⊢
    have hhb : (d.h == -1) = true := by simp [hh]
    clear HU hh
    obtain ⟨E, hE⟩ : ∃ E, E = endF q d := ⟨_, rfl⟩
    have HE := Lib.hid hE
    rw [← hE] at hvw hb ⊢
    clear hE
    have W1 := (IntWalk.i64_left _).trans (IntWalk.wrap64_in (E - d.f) (by omega))
    have W2 := (IntWalk.i64_left _).trans (IntWalk.wrap64_in (c + (E - d.f)) (by omega))
    have e5 := blk_cell h51 0
    have e7 := blk_cell h71 0
    have HC := Lib.hid hc
    have HV := Lib.hid hvw
    have HM := Lib.hid hm1
    have HR := Lib.hid hr
    have H7 := Lib.hid h71
    have HG := Lib.hid G0
    have HO := Lib.hid ho
    rw [ho] at e5 e7
    clear hc hvw hm1 hr h71 h51 ho G0 hlt
    go_enter Try.func39, Try.ntmps39
    go_wp2_with fail
    rw [← HO.out]
    refine (impl_endAt d q _).mono ?_
    rintro x w2 ⟨rfl, b2⟩
    rw [← HE.out]
    have hm2 := sums_below HM.out b2
    have hlk := sums_look hm2 hlw HC.out
    obtain ⟨w3, hup, hm3, hg3⟩ := sums_upd hm2 hk hlw HV.out
    have G2 : (w.alloc o).grownBy w2 (some gm) := ⟨b2.os, b2.tape, b2.output, b2.size, fun i hi _ => b2.block i hi⟩
    have h72 := (blk_below b2 H7.out).1
    have hr2 := (blk_below b2 HR.out).1
    clear e5 e7 b2
    have c0 := blk_cell hr2 0
    have c3 := blk_cell hr2 3
    have e7 := blk_cell h72 0
    have K1 := Lib.hid hm3
    have K2 := Lib.hid hg3
    have K4 := Lib.hid G2
    clear hm3 hg3 hm2 G2
    go_wp2
    exact bodyPost_end (v := .tuple #[]) (results_none rfl _ _ _) rfl ⟨rfl, K1.out, (HG.out.trans K4.out).trans K2.out⟩
  · have HU : untilF q d = d.h := by unfold untilF; rw [if_neg hh]
    rw [HU] at hvw hb ⊢
    have hhb : (d.h == -1) = false := by simp [hh]
    clear HU hh
    have W1 := (IntWalk.i64_left _).trans (IntWalk.wrap64_in (d.h - d.f) (by omega))
    have W2 := (IntWalk.i64_left _).trans (IntWalk.wrap64_in (c + (d.h - d.f)) (by omega))
    have e7 := blk_cell h71 0
    have hlk := sums_look hm1 hlw hc
    obtain ⟨w3, hup, hm3, hg3⟩ := sums_upd hm1 hk hlw hvw
    have K1 := Lib.hid hm3
    have K2 := Lib.hid hg3
    have K3 := Lib.hid G0
    rw [ho] at e7 hlk hup
    clear hm3 hg3 hm1 G0 hc hvw hr h71 h51 ho hlt
    go_enter Try.func39, Try.ntmps39
    go_wp2
    exact bodyPost_end (v := .tuple #[]) (results_none rfl _ _ _) rfl ⟨rfl, K1.out, K3.out.trans K2.out⟩
end Go.Proofs.Ytjcpjijihajopaa
