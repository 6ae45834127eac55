/-
  The sums of BusyMinutes and WaitedMinutes, in a map of the call's own.
-/
import Derived.Test.YtjcpjijihajopaaRecB
import Derived.Maps.OwnOps
import Derived.Maps.Views
set_option linter.unusedSectionVars false
set_option linter.unusedSimpArgs false
set_option linter.unusedVariables false
namespace Go.Proofs.Ytjcpjijihajopaa
open Go.RowKit Go.Maps
set_option linter.unusedVariables false
theorem keyed3 : Keyed Try.prog 3 := int_keyed Try.underlying3
theorem zero3 (w : World) : (zeroValue 3).run Try.prog w = .ok (.int .i64 0) w := by kernel_rfl
abbrev SumsM (w : World) (gm k : Nat) (D : DataW Unit) : Prop := w.ownsMap Try.prog 3 (plainElem (H := Unit) Try.prog 3) gm k D
theorem wf_small {n : Int} (h0 : -1000000 ≤ n) (h1 : n ≤ 1000000) : (Lit.int .i64 n).wf = true := by
  simp only [Lit.wf, IntKind.min, IntKind.max, IntKind.signed, IntKind.bits, Bool.and_eq_true, decide_eq_true_eq, if_true]
  omega
theorem sums_look {W : World} {gm k : Nat} {D : DataW Unit} {l c : Int} (h : SumsM W gm k D) (hl : (Lit.int .i64 l).wf = true) (hc : D.atKey (.int .i64 l) (.lit (.int .i64 0)) = .lit (.int .i64 c)) :
    (Instr.lookup 59 (.map (some gm)) (.int .i64 l) false).run Try.prog W = .ok (.int .i64 c) W := by
  obtain ⟨c', hr, ha, _⟩ := h.lookup_int keyed3 Try.underlying59 Try.underlying3 (zero3 W) (keyOf_int_mk Try.underlying3 hl)
  rw [hc] at ha
  simp only [DataW.lit.injEq, Lit.int.injEq, true_and] at ha
  rw [hr, ha]
theorem sums_upd {W : World} {gm k : Nat} {D : DataW Unit} {l v : Int} (h : SumsM W gm k D) (hk : k ≤ 1048576) (hl : (Lit.int .i64 l).wf = true) (hv : (Lit.int .i64 v).wf = true) :
    ∃ W', (Instr.mapUpdate 59 (.map (some gm)) (.int .i64 l) (.int .i64 v)).run Try.prog W = .ok () W' ∧ SumsM W' gm (k + 1) (D.put (.int .i64 l) (.lit (.int .i64 v))) ∧ W.grownBy W' (some gm) :=
  h.update keyed3 Try.underlying59 (by unfold maxLen; omega) (keyOf_int_mk Try.underlying3 hl) (plainElem_int Try.underlying3 hv)
theorem grown_below {W W' : World} (h : Below W.heap.size W W') : W.grownBy W' none := ⟨h.os, h.tape, h.output, h.size, fun i hi _ => h.block i hi⟩
theorem sums_below {W W' : World} {gm k : Nat} {D : DataW Unit} (h : SumsM W gm k D) (hb : Below W.heap.size W W') : SumsM W' gm k D := h.kept (grown_below hb) (by simp)
section
variable {w W W' : World} {a0 a1 a2 a3 a4 a5 a6 a7 a8 : Addr} {v0 v1 v2 v3 v4 v5 v6 v7 v8 : Value} {gm : Nat}
theorem held9_below (hb : Below W.heap.size W W') (h : W.cell? a0 = some v0 ∧ W.cell? a1 = some v1 ∧ W.cell? a2 = some v2 ∧ W.cell? a3 = some v3 ∧ W.cell? a4 = some v4 ∧ W.cell? a5 = some v5 ∧ W.cell? a6 = some v6 ∧ W.cell? a7 = some v7 ∧ W.cell? a8 = some v8) : W'.cell? a0 = some v0 ∧ W'.cell? a1 = some v1 ∧ W'.cell? a2 = some v2 ∧ W'.cell? a3 = some v3 ∧ W'.cell? a4 = some v4 ∧ W'.cell? a5 = some v5 ∧ W'.cell? a6 = some v6 ∧ W'.cell? a7 = some v7 ∧ W'.cell? a8 = some v8 := by
  have e : ∀ {a : Addr} {v : Value}, W.cell? a = some v → W'.cell? a = some v := fun {a v} hv => (World.cell?_of_block (hb.block _ (World.block_lt_of_cell? W _ hv))).trans hv
  obtain ⟨h0, h1, h2, h3, h4, h5, h6, h7, h8⟩ := h
  exact ⟨e h0, e h1, e h2, e h3, e h4, e h5, e h6, e h7, e h8⟩
theorem held9_upd (hg : W.grownBy W' (some gm)) (n0 : a0.block ≠ gm) (n1 : a1.block ≠ gm) (n2 : a2.block ≠ gm) (n3 : a3.block ≠ gm) (n4 : a4.block ≠ gm) (n5 : a5.block ≠ gm) (n6 : a6.block ≠ gm) (n7 : a7.block ≠ gm) (n8 : a8.block ≠ gm) (h : W.cell? a0 = some v0 ∧ W.cell? a1 = some v1 ∧ W.cell? a2 = some v2 ∧ W.cell? a3 = some v3 ∧ W.cell? a4 = some v4 ∧ W.cell? a5 = some v5 ∧ W.cell? a6 = some v6 ∧ W.cell? a7 = some v7 ∧ W.cell? a8 = some v8) : W'.cell? a0 = some v0 ∧ W'.cell? a1 = some v1 ∧ W'.cell? a2 = some v2 ∧ W'.cell? a3 = some v3 ∧ W'.cell? a4 = some v4 ∧ W'.cell? a5 = some v5 ∧ W'.cell? a6 = some v6 ∧ W'.cell? a7 = some v7 ∧ W'.cell? a8 = some v8 := by
  have e : ∀ {a : Addr} {v : Value}, a.block ≠ gm → W.cell? a = some v → W'.cell? a = some v := fun {a v} hn hv => (World.cell?_of_block (hg.block _ (World.block_lt_of_cell? W _ hv) (fun e => hn (by injection e)))).trans hv
  obtain ⟨h0, h1, h2, h3, h4, h5, h6, h7, h8⟩ := h
  exact ⟨e n0 h0, e n1 h1, e n2 h2, e n3 h3, e n4 h4, e n5 h5, e n6 h6, e n7 h7, e n8 h8⟩
end
set_option maxHeartbeats 4000000 in
set_option maxRecDepth 20000 in
theorem busy1_any (d : RecD) (q c : Int) (g5 g7 gm k : Nat) (D : DataW Unit) (w : World) (h5 : w.heap[g5]? = some (.cells #[.int .i64 q] 3)) (h7 : w.heap[g7]? = some (.cells #[.map (some gm)] 59)) (hm : SumsM w gm k D) (hk : k ≤ 1048576) (n5 : g5 ≠ gm) (n7 : g7 ≠ gm)
    (hd : -1000000 ≤ d.l ∧ d.l ≤ 1000000) (hc : D.atKey (.int .i64 d.l) (.lit (.int .i64 0)) = .lit (.int .i64 c)) (hb : -100000 ≤ c ∧ c ≤ 900000 ∧ 0 ≤ endF q d - d.f ∧ endF q d - d.f ≤ 3600) :
    Calls Try.prog 36 #[.agg #[.int .i64 d.c, .int .i64 d.l, .int .i64 d.o, .int .i64 d.f, .int .i64 d.h, .int .i64 d.t, .string d.e], .pointer (some ⟨g7, 0, none⟩), .pointer (some ⟨g5, 0, none⟩)] w fun e w' => e = .returned (.tuple #[]) ∧ SumsM w' gm (k + 1) (D.put (.int .i64 d.l) (.lit (.int .i64 (c + (endF q d - d.f))))) ∧ w.grownBy w' (some gm) := by
  have hlw := wf_small hd.1 hd.2
  have hvw : (Lit.int .i64 (c + (endF q d - d.f))).wf = true := wf_small (by omega) (by omega)
  have hlt := hm.lt
  obtain ⟨E, hE⟩ : ∃ E, E = endF q d := ⟨_, rfl⟩
  have HE := Lib.hid hE
  rw [← hE] at hvw hb ⊢
  clear hE
  have W1 := (IntWalk.i64_left _).trans (IntWalk.wrap64_in (E - d.f) (by omega))
  have W2 := (IntWalk.i64_left _).trans (IntWalk.wrap64_in (c + (E - d.f)) (by omega))
  go_enter Try.func36, Try.ntmps36
  go_wp2_with fail
  obtain ⟨o, ho⟩ : ∃ o : Obj, o = .cells #[.int .i64 d.c, .int .i64 d.l, .int .i64 d.o, .int .i64 d.f, .int .i64 d.h, .int .i64 d.t, .string d.e] 50 := ⟨_, rfl⟩
  rw [← ho]
  have hr : (w.alloc o).heap[w.heap.size]? = some (.cells #[.int .i64 d.c, .int .i64 d.l, .int .i64 d.o, .int .i64 d.f, .int .i64 d.h, .int .i64 d.t, .string d.e] 50) := by rw [← ho]; exact heap_alloc_new _ _
  have hm1 : SumsM (w.alloc o) gm k D := hm.alloc o
  have h51 := blk_alloc h5 o
  have h71 := blk_alloc h7 o
  have nr : w.heap.size ≠ gm := by omega
  have G0 : w.grownBy (w.alloc o) (some gm) := World.grownBy_alloc w o _
  clear ho hm h5 h7 hlt
  generalize w.alloc o = W at *
  generalize w.heap.size = r at *
  have S0 : W.cell? ⟨r, 0, none⟩ = some (.int .i64 d.c) ∧ W.cell? ⟨r, 1, none⟩ = some (.int .i64 d.l) ∧ W.cell? ⟨r, 2, none⟩ = some (.int .i64 d.o) ∧ W.cell? ⟨r, 3, none⟩ = some (.int .i64 d.f) ∧ W.cell? ⟨r, 4, none⟩ = some (.int .i64 d.h) ∧ W.cell? ⟨r, 5, none⟩ = some (.int .i64 d.t) ∧ W.cell? ⟨r, 6, none⟩ = some (.string d.e) ∧ W.cell? ⟨g5, 0, none⟩ = some (.int .i64 q) ∧ W.cell? ⟨g7, 0, none⟩ = some (.map (some gm)) := ⟨blk_cell hr 0, blk_cell hr 1, blk_cell hr 2, blk_cell hr 3, blk_cell hr 4, blk_cell hr 5, blk_cell hr 6, blk_cell h51 0, blk_cell h71 0⟩
  have hlk0 := sums_look hm1.drew hlw hc
  clear h51 h71 hr
  go_region_held3 (fun W => W.cell? ⟨r, 0, none⟩ = some (.int .i64 d.c) ∧ W.cell? ⟨r, 1, none⟩ = some (.int .i64 d.l) ∧ W.cell? ⟨r, 2, none⟩ = some (.int .i64 d.o) ∧ W.cell? ⟨r, 3, none⟩ = some (.int .i64 d.f) ∧ W.cell? ⟨r, 4, none⟩ = some (.int .i64 d.h) ∧ W.cell? ⟨r, 5, none⟩ = some (.int .i64 d.t) ∧ W.cell? ⟨r, 6, none⟩ = some (.string d.e) ∧ W.cell? ⟨g5, 0, none⟩ = some (.int .i64 q) ∧ W.cell? ⟨g7, 0, none⟩ = some (.map (some gm)))
    (first | exact S0 | assumption | exact held9_below (by assumption) (by assumption) | exact held9_upd (gm := gm) (by assumption) nr nr nr nr nr nr nr n5 n7 (by assumption))
    (first | (go_at_call 37; refine (impl_endAt d q _).mono ?_; rintro x w2 ⟨rfl, b2⟩; rw [← HE.out]; have hm2 := sums_below hm1.drew b2; have hlk2 := sums_look hm2 hlw hc; obtain ⟨w3, hup, hm3, hg3⟩ := sums_upd hm2 hk hlw hvw))
  all_goals have G2 : W.grownBy w2 (some gm) := ⟨b2.os, b2.tape, b2.output, b2.size, fun i hi _ => b2.block i hi⟩
  all_goals exact bodyPost_end (v := .tuple #[]) (results_none rfl _ _ _) rfl ⟨rfl, hm3, (G0.trans G2).trans hg3⟩
end Go.Proofs.Ytjcpjijihajopaa
