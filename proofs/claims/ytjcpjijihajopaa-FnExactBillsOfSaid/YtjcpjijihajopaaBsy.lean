/-
  The sums of BusyMinutes and WaitedMinutes, in a map of the call's own.
  The program's BusyMinutes, whose records come from another goroutine.
  The program's BusyMinutes, judged.
  The program's BusyMinutes, judged whole.
  Pieces of a text walked in place: what is behind them under a name that nothing opens.
-/
import Derived.Test.YtjcpjijihajopaaRecA
import Derived.Maps.OwnOps
import Derived.Maps.Views
import Derived.Test.YtjcpjijihajopaaEac
import Derived.Test.YtjcpjijihajopaaMt7
set_option linter.unusedSectionVars false
set_option linter.unusedSimpArgs false
set_option linter.unusedVariables false
namespace Go.Proofs.Ytjcpjijihajopaa
open Go.RowKit Go.Maps
set_option linter.unusedVariables false
theorem keyed3 : Keyed Try.prog 3 := int_keyed Try.underlying3
theorem zero3 (w : World) : (zeroValue 3).run Try.prog w = .ok (.int .i64 0) w := by kernel_rfl
abbrev SumsM (w : World) (gm k : Nat) (D : DataW Unit) : Prop := w.ownsMap Try.prog 3 (plainElem (H := Unit) Try.prog 3) gm k D
theorem wf_small {n : Int} (h0 : -1000000 ≤ n) (h1 : n ≤ 1000000) : (Lit.int .i64 n).wf = true := by
  simp only [Lit.wf, IntKind.min, IntKind.max, IntKind.signed, IntKind.bits, Bool.and_eq_true, decide_eq_true_eq, if_true]
  omega
theorem sums_look {W : World} {gm k : Nat} {D : DataW Unit} {l c : Int} (h : SumsM W gm k D) (hl : (Lit.int .i64 l).wf = true) (hc : D.atKey (.int .i64 l) (.lit (.int .i64 0)) = .lit (.int .i64 c)) :
    (Instr.lookup 59 (.map (some gm)) (.int .i64 l) false).run Try.prog W = .ok (.int .i64 c) W := by
  obtain ⟨c', hr, ha, _⟩ := h.lookup_int keyed3 Try.underlying59 Try.underlying3 (zero3 W) (keyOf_int_mk Try.underlying3 hl)
  rw [hc] at ha
  simp only [DataW.lit.injEq, Lit.int.injEq, true_and] at ha
  rw [hr, ha]
theorem sums_upd {W : World} {gm k : Nat} {D : DataW Unit} {l v : Int} (h : SumsM W gm k D) (hk : k ≤ 1048576) (hl : (Lit.int .i64 l).wf = true) (hv : (Lit.int .i64 v).wf = true) :
    ∃ W', (Instr.mapUpdate 59 (.map (some gm)) (.int .i64 l) (.int .i64 v)).run Try.prog W = .ok () W' ∧ SumsM W' gm (k + 1) (D.put (.int .i64 l) (.lit (.int .i64 v))) ∧ W.grownBy W' (some gm) :=
  h.update keyed3 Try.underlying59 (by unfold maxLen; omega) (keyOf_int_mk Try.underlying3 hl) (plainElem_int Try.underlying3 hv)
theorem grown_below {W W' : World} (h : Below W.heap.size W W') : W.grownBy W' none := ⟨h.os, h.tape, h.output, h.size, fun i hi _ => h.block i hi⟩
theorem sums_below {W W' : World} {gm k : Nat} {D : DataW Unit} (h : SumsM W gm k D) (hb : Below W.heap.size W W') : SumsM W' gm k D := h.kept (grown_below hb) (by simp)
section
variable {w W W' : World} {a0 a1 a2 a3 a4 a5 a6 a7 a8 : Addr} {v0 v1 v2 v3 v4 v5 v6 v7 v8 : Value} {gm : Nat}
theorem held9_below (hb : Below W.heap.size W W') (h : W.cell? a0 = some v0 ∧ W.cell? a1 = some v1 ∧ W.cell? a2 = some v2 ∧ W.cell? a3 = some v3 ∧ W.cell? a4 = some v4 ∧ W.cell? a5 = some v5 ∧ W.cell? a6 = some v6 ∧ W.cell? a7 = some v7 ∧ W.cell? a8 = some v8) : W'.cell? a0 = some v0 ∧ W'.cell? a1 = some v1 ∧ W'.cell? a2 = some v2 ∧ W'.cell? a3 = some v3 ∧ W'.cell? a4 = some v4 ∧ W'.cell? a5 = some v5 ∧ W'.cell? a6 = some v6 ∧ W'.cell? a7 = some v7 ∧ W'.cell? a8 = some v8 := by
  have e : ∀ {a : Addr} {v : Value}, W.cell? a = some v → W'.cell? a = some v := fun {a v} hv => (World.cell?_of_block (hb.block _ (World.block_lt_of_cell? W _ hv))).trans hv
  obtain ⟨h0, h1, h2, h3, h4, h5, h6, h7, h8⟩ := h
  exact ⟨e h0, e h1, e h2, e h3, e h4, e h5, e h6, e h7, e h8⟩
theorem held9_upd (hg : W.grownBy W' (some gm)) (n0 : a0.block ≠ gm) (n1 : a1.block ≠ gm) (n2 : a2.block ≠ gm) (n3 : a3.block ≠ gm) (n4 : a4.block ≠ gm) (n5 : a5.block ≠ gm) (n6 : a6.block ≠ gm) (n7 : a7.block ≠ gm) (n8 : a8.block ≠ gm) (h : W.cell? a0 = some v0 ∧ W.cell? a1 = some v1 ∧ W.cell? a2 = some v2 ∧ W.cell? a3 = some v3 ∧ W.cell? a4 = some v4 ∧ W.cell? a5 = some v5 ∧ W.cell? a6 = some v6 ∧ W.cell? a7 = some v7 ∧ W.cell? a8 = some v8) : W'.cell? a0 = some v0 ∧ W'.cell? a1 = some v1 ∧ W'.cell? a2 = some v2 ∧ W'.cell? a3 = some v3 ∧ W'.cell? a4 = some v4 ∧ W'.cell? a5 = some v5 ∧ W'.cell? a6 = some v6 ∧ W'.cell? a7 = some v7 ∧ W'.cell? a8 = some v8 := by
  have e : ∀ {a : Addr} {v : Value}, a.block ≠ gm → W.cell? a = some v → W'.cell? a = some v := fun {a v} hn hv => (World.cell?_of_block (hg.block _ (World.block_lt_of_cell? W _ hv) (fun e => hn (by injection e)))).trans hv
  obtain ⟨h0, h1, h2, h3, h4, h5, h6, h7, h8⟩ := h
  exact ⟨e n0 h0, e n1 h1, e n2 h2, e n3 h3, e n4 h4, e n5 h5, e n6 h6, e n7 h7, e n8 h8⟩
end
set_option maxHeartbeats 4000000 in
set_option maxRecDepth 20000 in
theorem busy1_any (d : RecD) (q c : Int) (g5 g7 gm k : Nat) (D : DataW Unit) (w : World) (h5 : w.heap[g5]? = some (.cells #[.int .i64 q] 3)) (h7 : w.heap[g7]? = some (.cells #[.map (some gm)] 59)) (hm : SumsM w gm k D) (hk : k ≤ 1048576) (n5 : g5 ≠ gm) (n7 : g7 ≠ gm)
    (hd : -1000000 ≤ d.l ∧ d.l ≤ 1000000) (hc : D.atKey (.int .i64 d.l) (.lit (.int .i64 0)) = .lit (.int .i64 c)) (hb : -100000 ≤ c ∧ c ≤ 900000 ∧ 0 ≤ endF q d - d.f ∧ endF q d - d.f ≤ 3600) :
    Calls Try.prog 36 #[.agg #[.int .i64 d.c, .int .i64 d.l, .int .i64 d.o, .int .i64 d.f, .int .i64 d.h, .int .i64 d.t, .string d.e], .pointer (some ⟨g7, 0, none⟩), .pointer (some ⟨g5, 0, none⟩)] w fun e w' => e = .returned (.tuple #[]) ∧ SumsM w' gm (k + 1) (D.put (.int .i64 d.l) (.lit (.int .i64 (c + (endF q d - d.f))))) ∧ w.grownBy w' (some gm) := by
  have hlw := wf_small hd.1 hd.2
  have hvw : (Lit.int .i64 (c + (endF q d - d.f))).wf = true := wf_small (by omega) (by omega)
  have hlt := hm.lt
  obtain ⟨E, hE⟩ : ∃ E, E = endF q d := ⟨_, rfl⟩
  have HE := Lib.hid hE
  rw [← hE] at hvw hb ⊢
  clear hE
  have W1 := (IntWalk.i64_left _).trans (IntWalk.wrap64_in (E - d.f) (by omega))
  have W2 := (IntWalk.i64_left _).trans (IntWalk.wrap64_in (c + (E - d.f)) (by omega))
  go_enter Try.func36, Try.ntmps36
  go_wp2_with fail
  obtain ⟨o, ho⟩ : ∃ o : Obj, o = .cells #[.int .i64 d.c, .int .i64 d.l, .int .i64 d.o, .int .i64 d.f, .int .i64 d.h, .int .i64 d.t, .string d.e] 50 := ⟨_, rfl⟩
  rw [← ho]
  have hr : (w.alloc o).heap[w.heap.size]? = some (.cells #[.int .i64 d.c, .int .i64 d.l, .int .i64 d.o, .int .i64 d.f, .int .i64 d.h, .int .i64 d.t, .string d.e] 50) := by rw [← ho]; exact heap_alloc_new _ _
  have hm1 : SumsM (w.alloc o) gm k D := hm.alloc o
  have h51 := blk_alloc h5 o
  have h71 := blk_alloc h7 o
  have nr : w.heap.size ≠ gm := by omega
  have G0 : w.grownBy (w.alloc o) (some gm) := World.grownBy_alloc w o _
  clear ho hm h5 h7 hlt
  generalize w.alloc o = W at *
  generalize w.heap.size = r at *
  have S0 : W.cell? ⟨r, 0, none⟩ = some (.int .i64 d.c) ∧ W.cell? ⟨r, 1, none⟩ = some (.int .i64 d.l) ∧ W.cell? ⟨r, 2, none⟩ = some (.int .i64 d.o) ∧ W.cell? ⟨r, 3, none⟩ = some (.int .i64 d.f) ∧ W.cell? ⟨r, 4, none⟩ = some (.int .i64 d.h) ∧ W.cell? ⟨r, 5, none⟩ = some (.int .i64 d.t) ∧ W.cell? ⟨r, 6, none⟩ = some (.string d.e) ∧ W.cell? ⟨g5, 0, none⟩ = some (.int .i64 q) ∧ W.cell? ⟨g7, 0, none⟩ = some (.map (some gm)) := ⟨blk_cell hr 0, blk_cell hr 1, blk_cell hr 2, blk_cell hr 3, blk_cell hr 4, blk_cell hr 5, blk_cell hr 6, blk_cell h51 0, blk_cell h71 0⟩
  have hlk0 := sums_look hm1.drew hlw hc
  clear h51 h71 hr
  go_region_held3 (fun W => W.cell? ⟨r, 0, none⟩ = some (.int .i64 d.c) ∧ W.cell? ⟨r, 1, none⟩ = some (.int .i64 d.l) ∧ W.cell? ⟨r, 2, none⟩ = some (.int .i64 d.o) ∧ W.cell? ⟨r, 3, none⟩ = some (.int .i64 d.f) ∧ W.cell? ⟨r, 4, none⟩ = some (.int .i64 d.h) ∧ W.cell? ⟨r, 5, none⟩ = some (.int .i64 d.t) ∧ W.cell? ⟨r, 6, none⟩ = some (.string d.e) ∧ W.cell? ⟨g5, 0, none⟩ = some (.int .i64 q) ∧ W.cell? ⟨g7, 0, none⟩ = some (.map (some gm)))
    (first | exact S0 | assumption | exact held9_below (by assumption) (by assumption) | exact held9_upd (gm := gm) (by assumption) nr nr nr nr nr nr nr n5 n7 (by assumption))
    (first | (go_at_call 37; refine (impl_endAt d q _).mono ?_; rintro x w2 ⟨rfl, b2⟩; rw [← HE.out]; have hm2 := sums_below hm1.drew b2; have hlk2 := sums_look hm2 hlw hc; obtain ⟨w3, hup, hm3, hg3⟩ := sums_upd hm2 hk hlw hvw))
  all_goals have G2 : W.grownBy w2 (some gm) := ⟨b2.os, b2.tape, b2.output, b2.size, fun i hi _ => b2.block i hi⟩
  all_goals exact bodyPost_end (v := .tuple #[]) (results_none rfl _ _ _) rfl ⟨rfl, hm3, (G0.trans G2).trans hg3⟩
end Go.Proofs.Ytjcpjijihajopaa
namespace Go.Proofs.Ytjcpjijihajopaa
open Go.RowKit Go.Mt Go.Conc Go.Tt Go.Maps
set_option linter.unusedVariables false
noncomputable def bodyBM : Code := (Try.f12.body).getD .skip
noncomputable def rBM0 : Code := match bodyBM with | .seq a _ => a | _ => .skip
noncomputable def rBM1 : Code := match bodyBM with | .seq _ (.seq (.seq a _) _) => a | _ => .skip
noncomputable def rBM2 : Code := match bodyBM with | .seq _ (.seq (.seq _ (.cond _ (.seq a _) _)) _) => a | _ => .skip
noncomputable def rBM3 : Code := match bodyBM with | .seq _ (.seq _ (.seq a _)) => a | _ => .skip
noncomputable def rBM4 : Code := match bodyBM with | .seq _ (.seq _ (.seq _ (.seq a _))) => a | _ => .skip
noncomputable def rBM5 : Code := match bodyBM with | .seq _ (.seq _ (.seq _ (.seq _ (.seq a _)))) => a | _ => .skip
theorem bodyBM_eq : bodyBM = .seq rBM0 (.seq (.seq rBM1 (.cond (.tmp 19) (.seq rBM2 .ret) .skip)) (.seq rBM3 (.seq rBM4 (.seq rBM5 .ret)))) := rfl
section
variable {Q : Exit → Go.Act → World → Prop} {u0 u1 u2 u3 u4 u5 u6 u7 u8 u9 u10 u11 u12 u13 u14 u15 u16 u17 u18 u19 u20 u21 u22 u23 u24 u25 u26 : Value} {w : World} {A : Option Addr} {n cap : Nat} {l q : Int} {rs : List RecD} {g5 g7 gm : Nat} {t : Bool}
set_option maxHeartbeats 1000000 in
theorem wpBM0 (h : Q .normal ⟨#[.slice A n cap, .int .i64 l, .int .i64 q, u3, u4, .pointer (some ⟨w.heap.size, 0, none⟩), .int .i64 0, u7, u8, u9, u10, u11, u12, u13, u14, u15, u16, u17, u18, u19, u20, u21, u22, u23, u24, u25, u26], []⟩ (w.alloc (.cells #[.int .i64 q] 3))) :
    Code.wp Try.prog rBM0 Q ⟨#[.slice A n cap, .int .i64 l, .int .i64 q, u3, u4, u5, u6, u7, u8, u9, u10, u11, u12, u13, u14, u15, u16, u17, u18, u19, u20, u21, u22, u23, u24, u25, u26], []⟩ w := by
  simp only [rBM0, bodyBM, Try.f12, Option.getD_some]
  go_wp2
  exact h
set_option maxHeartbeats 1000000 in
theorem wpBM1 {lo hi : Nat} (hs : Slc w lo hi 7 A n cap (recs rs)) (hn : n ≤ 1048576) (h5 : w.heap[g5]? = some (.cells #[.int .i64 q] 3)) (ht : t = (clockB rs q && inB l 1 6))
    (h : ∀ u8 u9 u10 u11 u12 u13 u14 u15 u16 u17 u18 w', Below w.heap.size w w' → Q .normal ⟨#[.slice A n cap, .int .i64 l, .int .i64 q, u3, u4, .pointer (some ⟨g5, 0, none⟩), .int .i64 0, u7, u8, u9, u10, u11, u12, u13, u14, u15, u16, u17, u18, .bool (!t), u20, u21, u22, u23, u24, u25, u26], []⟩ w') :
    Code.wp Try.prog rBM1 Q ⟨#[.slice A n cap, .int .i64 l, .int .i64 q, u3, u4, .pointer (some ⟨g5, 0, none⟩), .int .i64 0, u7, u8, u9, u10, u11, u12, u13, u14, u15, u16, u17, u18, u19, u20, u21, u22, u23, u24, u25, u26], []⟩ w := by
  simp only [rBM1, bodyBM, Try.f12, Option.getD_some]
  have HH := Lib.hid h
  have c5 := blk_cell h5 0
  obtain ⟨s, hs'⟩ : ∃ s, s = clockB rs q := ⟨_, rfl⟩
  have HS := Lib.hid hs'
  rw [← hs'] at ht
  have HT := Lib.hid ht
  clear h h5 hs' ht
  go_wp2_with fail
  refine (impl_clockValid _ _ _ _ _ _ _ _ hs hn).mono ?_
  rintro e w1 ⟨rfl, b1⟩
  rw [← HS.out]
  clear hs c5
  cases s
  · have et : t = false := by rw [HT.out]; rfl
    subst et
    go_wp2
    exact HH.out _ _ _ _ _ _ _ _ _ _ _ _ b1
  · by_cases h1 : l < 1
    · have et : t = false := by rw [HT.out]; simp [inB]; omega
      subst et
      go_wp2
      exact HH.out _ _ _ _ _ _ _ _ _ _ _ _ b1
    · have et : (decide (l < 1) || decide (6 < l)) = !t := by
        rw [HT.out, Bool.eq_iff_iff]; simp [inB]
      have HE := Lib.hid et
      have h1' : 1 ≤ l := by omega
      clear et h1
      go_wp2
      all_goals first
        | (rw [HE.out]; exact HH.out _ _ _ _ _ _ _ _ _ _ _ _ b1)
        | (exfalso; omega)
        | skip
set_option maxHeartbeats 1000000 in
theorem wpBM2 (h : Q .normal ⟨#[u0, u1, u2, u3, u4, u5, .int .i64 (-1), u7, u8, u9, u10, u11, u12, u13, u14, u15, u16, u17, u18, u19, u20, u21, u22, u23, u24, u25, u26], []⟩ w) : Code.wp Try.prog rBM2 Q ⟨#[u0, u1, u2, u3, u4, u5, u6, u7, u8, u9, u10, u11, u12, u13, u14, u15, u16, u17, u18, u19, u20, u21, u22, u23, u24, u25, u26], []⟩ w := by
  simp only [rBM2, bodyBM, Try.f12, Option.getD_some]
  go_wp2
  exact h
set_option maxHeartbeats 1000000 in
theorem wpBM3 (h : Q .normal ⟨#[u0, u1, u2, u3, u4, u5, u6, .pointer (some ⟨w.heap.size + 1, 0, none⟩), u8, u9, u10, u11, u12, u13, u14, u15, u16, u17, u18, u19, .map (some w.heap.size), u21, u22, u23, u24, u25, u26], []⟩ ((w.alloc (.map #[] 0)).alloc (.cells #[.map (some w.heap.size)] 59))) : Code.wp Try.prog rBM3 Q ⟨#[u0, u1, u2, u3, u4, u5, u6, u7, u8, u9, u10, u11, u12, u13, u14, u15, u16, u17, u18, u19, u20, u21, u22, u23, u24, u25, u26], []⟩ w := by
  simp only [rBM3, bodyBM, Try.f12, Option.getD_some]
  have hmm := @run_makeMap Try.prog
  go_wp2
  simpa using h
set_option maxHeartbeats 1000000 in
theorem wpBM5 {k : Nat} {D : DataW Unit} {c : Int} (hm : SumsM w gm k D) (h7 : w.heap[g7]? = some (.cells #[.map (some gm)] 59)) (hl : 1 ≤ l ∧ l ≤ 6) (hc : D.atKey (.int .i64 l) (.lit (.int .i64 0)) = .lit (.int .i64 c)) (h : ∀ u24 u25 u26, Q .normal ⟨#[u0, .int .i64 l, u2, u3, u4, u5, .int .i64 c, .pointer (some ⟨g7, 0, none⟩), u8, u9, u10, u11, u12, u13, u14, u15, u16, u17, u18, u19, u20, u21, u22, u23, u24, u25, u26], []⟩ w) : Code.wp Try.prog rBM5 Q ⟨#[u0, .int .i64 l, u2, u3, u4, u5, u6, .pointer (some ⟨g7, 0, none⟩), u8, u9, u10, u11, u12, u13, u14, u15, u16, u17, u18, u19, u20, u21, u22, u23, u24, u25, u26], []⟩ w := by
  simp only [rBM5, bodyBM, Try.f12, Option.getD_some]
  have c7 := blk_cell h7 0
  have hlk := sums_look hm (wf_small (by omega) (by omega)) hc
  have HH := Lib.hid h
  clear h
  go_wp2
  exact HH.out _ _ _
end
end Go.Proofs.Ytjcpjijihajopaa
namespace Go.Proofs.Ytjcpjijihajopaa
open Go.RowKit Go.Mt Go.Conc Go.Tt Go.Maps
set_option linter.unusedVariables false
/-- Blocks below B stand. -/
structure Bl (B : Nat) (w w' : World) : Prop where
  size : w.heap.size ≤ w'.heap.size
  block : ∀ b, b < B → w'.heap[b]? = w.heap[b]?
theorem Bl.refl (B : Nat) (w : World) : Bl B w w := ⟨Nat.le_refl _, fun _ _ => rfl⟩
theorem Bl.trans {B : Nat} {a b c : World} (h : Bl B a b) (k : Bl B b c) : Bl B a c := ⟨Nat.le_trans h.size k.size, fun x hx => (k.block x hx).trans (h.block x hx)⟩
theorem Bl.below {B : Nat} {a b c : World} (h : Bl B a b) (k : Below b.heap.size b c) (hB : B ≤ a.heap.size) : Bl B a c := ⟨Nat.le_trans h.size k.size, fun x hx => (k.block x (by have := h.size; omega)).trans (h.block x hx)⟩
theorem Bl.tp {B : Nat} {a b : World} (h : Bl B a b) (T : Tape) (e : Nat) : Bl B a (Tt.tp b T e) := ⟨h.size, h.block⟩
theorem Bl.al {B : Nat} {a b : World} (h : Bl B a b) (hB : B ≤ a.heap.size) (o : Obj) : Bl B a (b.alloc o) := ⟨by rw [size_push]; have := h.size; omega, fun x hx => (heap_push_lt (by have := h.size; omega)).trans (h.block x hx)⟩
theorem Slc.bl {w w' : World} {s n c : Nat} {A : Option Addr} {xs : List Value} (h : Slc w 0 w.heap.size s A n c xs) (k : Bl w.heap.size w w') : Slc w' 0 w'.heap.size s A n c xs :=
  (h.keep k.size fun b _ _ h3 => k.block b h3).wide (Nat.le_refl _) k.size
theorem srcOk_bl {w w' : World} {A : Option Addr} {src : Option Blk} (h : srcOk w A src) (k : Bl w.heap.size w w') : srcOk w' A src := by
  cases src with
  | none => exact h
  | some b => exact ⟨h.1, (k.block _ (Array.getElem?_eq_some_iff.1 h.2.1).1).trans h.2.1, h.2.2⟩
theorem thaw_at {wn : World} {src : Option Blk} {x : Nat} (h : ∀ b, src = some b → b.rb ≠ x) : (thaw wn src).heap[x]? = wn.heap[x]? := by
  cases src with
  | none => rfl
  | some b => exact put_ne (h b rfl)
theorem frz_at {wn : World} {src : Option Blk} {x : Nat} (h : ∀ b, src = some b → b.rb ≠ x) : (frz wn src).heap[x]? = wn.heap[x]? := by
  cases src with
  | none => rfl
  | some b => exact put_ne (h b rfl)
theorem ghostM_at {w : World} {src : Option Blk} {T : TypeId} {x : Nat} (hx : x < w.heap.size) (h : ∀ b, src = some b → b.rb ≠ x) : (ghostM w src T).heap[x]? = w.heap[x]? := by
  unfold ghostM
  rw [heap_push_lt (by rw [size_push, frz_size]; omega), heap_push_lt (by rw [frz_size]; omega), frz_at h]
theorem ghostM_size (w : World) (src : Option Blk) (T : TypeId) : (ghostM w src T).heap.size = w.heap.size + 2 := by
  unfold ghostM; rw [size_push, size_push, frz_size]
/-- Behind a phase, thawed. -/
theorem thaw_bl {B : Nat} {w w3 wn : World} {A : Option Addr} {src : Option Blk} {T : TypeId} (hs : srcOk w3 A src) (h : Bl B w w3) (hB : B ≤ w.heap.size) (hb : ∀ x, x < B → wn.heap[x]? = (ghostM w3 src T).heap[x]?) (hz : w3.heap.size ≤ wn.heap.size) (hlt : ∀ b, src = some b → b.rb < B) : Bl B w (thaw wn src) := by
  refine ⟨by rw [thaw_size]; exact Nat.le_trans h.size hz, fun x hx => ?_⟩
  rw [← h.block x hx]
  have hx3 : x < w3.heap.size := by have := h.size; omega
  by_cases e : ∃ b, src = some b ∧ b.rb = x
  · obtain ⟨b, rfl, rfl⟩ := e
    obtain ⟨_, h2, _⟩ := hs
    rw [h2]
    exact put_same (by omega)
  · have e' : ∀ b, src = some b → b.rb ≠ x := fun b h1 h2 => e ⟨b, h1, h2⟩
    rw [thaw_at e', hb x hx, ghostM_at hx3 e']
/-- The sums so far. -/
structure SumsI (f : Int → RecD → Int) (rs : List RecD) (g5 g7 gm B : Nat) (q : Int) (wb : World) (k : Nat) (w : World) : Prop where
  c5 : w.heap[g5]? = some (.cells #[.int .i64 q] 3)
  c7 : w.heap[g7]? = some (.cells #[.map (some gm)] 59)
  m : ∃ D, SumsM w gm k D ∧ IsMap D ∧ ∀ l, D.atKey (.int .i64 l) (.lit (.int .i64 0)) = .lit (.int .i64 (sumR (f l) (rs.take k)))
  size : wb.heap.size ≤ w.heap.size
  old : ∀ b, b < B → w.heap[b]? = wb.heap[b]?
theorem busyI {rs : List RecD} {g5 g7 gm B : Nat} {q : Int} {wb : World} (hcl : clockB rs q = true) (n5 : g5 ≠ gm) (n7 : g7 ≠ gm) (hB : B ≤ gm ∧ B ≤ wb.heap.size) :
    EachI 36 #[.pointer (some ⟨g7, 0, none⟩), .pointer (some ⟨g5, 0, none⟩)] rs (SumsI (fun l => busyF l q) rs g5 g7 gm B q wb) := by
  obtain ⟨h60, k0, k1, hall⟩ := clockB_parts hcl
  refine ⟨fun k w T e h => ⟨h.c5, h.c7, h.m, h.size, h.old⟩, fun k w cs T h => ?_, fun k w d hd h => ?_⟩
  · obtain ⟨D, h1, h2, h3⟩ := h.m
    have hz := h.size
    exact ⟨blk_alloc h.c5 _, blk_alloc h.c7 _, ⟨D, h1.alloc _, h2, h3⟩, by rw [size_push]; omega, fun b hb => (heap_push_lt (by omega)).trans (h.old b hb)⟩
  · obtain ⟨D, h1, h2, h3⟩ := h.m
    obtain ⟨r1, r2⟩ := hall d (List.mem_of_getElem? hd)
    have hrt := recOk_times r1 r2 k1
    have hs := sumR_bound (busyF_bound (l := d.l) hcl) k
    have hk : k < rs.length := (List.getElem?_eq_some_iff.1 hd).1
    have key := busy1_any d q (sumR (busyF d.l q) (rs.take k)) g5 g7 gm k D w h.c5 h.c7 h1 (by omega) n5 n7 (by omega) (h3 d.l) (by omega)
    refine key.mono ?_
    rintro e w' ⟨rfl, hm, hg⟩
    refine ⟨_, rfl, (hg.block _ (blk_lt h.c5) (fun e => n5 (by injection e))).trans h.c5, (hg.block _ (blk_lt h.c7) (fun e => n7 (by injection e))).trans h.c7, ⟨_, hm, h2.put _ _, fun l => ?_⟩, Nat.le_trans h.size hg.size, fun b hb => (hg.block b (by have := h.size; omega) (fun e => by injection e with e; omega)).trans (h.old b hb)⟩
    rw [sumR_succ hd]
    by_cases e : l = d.l
    · subst e
      rw [atKey_put_same h2 (show WideAt.IsKeyLit (.int .i64 d.l) from True.intro)]
      unfold busyF
      rw [if_pos rfl]
    · rw [atKey_put_other (by intro h; injection h with _ h; exact e h), h3 l]
      unfold busyF
      rw [if_neg (fun h => e h.symm), Int.add_zero]
noncomputable def ops4B : Array Oper := match rBM4 with | .region _ ops _ => ops | _ => #[]
theorem rBM4_eq : rBM4 = .region 4 ops4B false := rfl
theorem ops4B_range : List.range ops4B.size = [0, 1, 2] := rfl
end Go.Proofs.Ytjcpjijihajopaa
namespace Go.Proofs.Ytjcpjijihajopaa
open Go.RowKit Go.Mt Go.Conc Go.Tt Go.Maps
set_option linter.unusedVariables false
theorem exec_makeFunc {p : Program} {o : Oper} {f : FuncId} {first cap : Array Operand} {ρ : Operand → Value} (hop : o.op = .makeFunc (.func f) first cap) (w : World) : (execOp ρ o).run p w = .ok (.value (.func (.func f) (first.map ρ) (cap.map ρ))) w := by
  obtain ⟨dst, op', type, pos, after, guard⟩ := o
  simp only at hop
  subst hop
  simp [execOp, go_sem]
abbrev oB0 : Oper := ⟨some 21, .move (.tmp 0), 25, "l8_bills.go:186", #[], none⟩
abbrev oB1 : Oper := ⟨some 22, .makeFunc (.func 36) #[] #[.tmp 7, .tmp 5], 61, "l8_bills.go:186", #[], none⟩
abbrev oB2 : Oper := ⟨some 23, .call ⟨.value (.func 35), #[.tmp 21, .tmp 22], #[25, 61]⟩, 0, "l8_bills.go:186", #[{ on := 0, ground := Ground.data }, { on := 1, ground := Ground.data }], none⟩
theorem ops4B_0 : ops4B[0]? = some oB0 := rfl
theorem ops4B_1 : ops4B[1]? = some oB1 := rfl
theorem ops4B_2 : ops4B[2]? = some oB2 := rfl
section
variable {St : Nat → Prop} {W0 : World} {Post : Value → World → Prop}
set_option maxHeartbeats 4000000 in
set_option maxRecDepth 100000 in
theorem jo_busy {m : Fm} {ms : List Fm} {w : World} {ops : Array Oper} {i : Nat} {rest : List Nat} {k : List Item} {o : Oper} {args : Array Operand} {ats : Array TypeId} {A : Option Addr} {n cap : Nat} {l q : Int} {rs : List RecD} {src : Option Blk}
    (hr : m.ret = false) (hfn : inL olL m.fn = false) (htd : m.todo = .inRegion ops (i :: rest) :: k) (ho : ops[i]? = some o) (hwt : Region.wanted o (yielded ops m.tmps) = true) (hop : o.op = .call ⟨.value (.func 12), args, ats⟩)
    (hv : args.map m.eval = #[.slice A n cap, .int .i64 l, .int .i64 q]) (hs : srcOk w A src) (hlo : ∀ b, src = some b → Try.prog.globals.size ≤ b.rb) (hslc : Slc w 0 w.heap.size 7 A n cap (recs rs)) (hn : n ≤ 1048576)
    (hJ : ∀ w', Bl w.heap.size w w' → JE St W0 Post (m.fin ops i rest k (.int .i64 (busyM rs l q))) ms w') : JE St W0 Post m ms w := by
  have L := lvF
  have hback : ∀ (tmps : Array Value) (td : List Item) (v : Value) (w' : World), tmps.getD 6 undef = v → Bl w.heap.size w w' → v = .int .i64 (busyM rs l q) → JE St W0 Post ⟨12, tmps, td, true⟩ (m :: ms) w' := by
    intro tmps td v w' h6 hb hvv
    refine JO.back L (v := v) rfl htd (fnx := Try.f12) Try.func12 ?_ hfn (hvv ▸ hJ w' hb)
    show (resOne tmps (.tmp 6)).run _ _ = _
    simp only [resOne, Pure.pure, Sem.run, h6]
  have hfo : inL olL 12 = false := by kernel_rfl
  have hbb : (Try.f12).body = some bodyBM := rfl
  have hnn : ((Try.f12).name == "runtime.NumGoroutine") = false := by decide
  have hcn := JO.callN (St := St) (W0 := W0) (Post := Post) (ms := ms) (w := w) (fn := Try.f12) (c := bodyBM) L hr htd ho hwt hop hfo
  refine hcn Try.func12 hnn hbb ?_
  rw [hv]
  have hent : (#[.slice A n cap, .int .i64 l, .int .i64 q] : Array Value) ++ Array.replicate ((Try.f12).ntmps - (#[.slice A n cap, .int .i64 l, .int .i64 q] : Array Value).size) undef = #[.slice A n cap, .int .i64 l, .int .i64 q, undef, undef, undef, undef, undef, undef, undef, undef, undef, undef, undef, undef, undef, undef, undef, undef, undef, undef, undef, undef, undef, undef, undef, undef] := by
    have e : (Try.f12).ntmps = 27 := rfl
    rw [e]
    apply Array.ext'
    simp only [Array.toList_append, Array.toList_replicate, List.size_toArray, List.length_cons, List.length_nil]
    rfl
  rw [hent, bodyBM_eq]
  have hsrc : ∀ b, src = some b → b.rb < w.heap.size := fun b e => by subst e; exact (Array.getElem?_eq_some_iff.1 hs.2.1).1
  refine JO.seq L hfo ?_
  refine JO.piece L (by kernel_rfl) hfo (fun T => ?_)
  refine wpBM0 ⟨rfl, ?_⟩
  obtain ⟨g5, hg5⟩ : ∃ g, g = w.heap.size := ⟨_, rfl⟩
  have B1 : Bl w.heap.size w ((Tt.tp w T 0).alloc (.cells #[.int .i64 q] 3)) := ((Bl.refl _ w).tp T 0).al (Nat.le_refl _) _
  have h5 : ((Tt.tp w T 0).alloc (.cells #[.int .i64 q] 3)).heap[g5]? = some (.cells #[.int .i64 q] 3) := by rw [hg5]; exact heap_push (Tt.tp w T 0) _
  have e5 : (Tt.tp w T 0).heap.size = g5 := hg5.symm
  rw [e5]
  generalize (Tt.tp w T 0).alloc (.cells #[.int .i64 q] 3) = w1 at B1 h5 ⊢
  refine JO.seq L hfo ?_
  refine JO.seq L hfo ?_
  obtain ⟨t, ht⟩ : ∃ t, t = (clockB rs q && inB l 1 6) := ⟨_, rfl⟩
  refine JO.piece L (by kernel_rfl) hfo (fun T => ?_)
  have B1t := B1.tp T 0
  have h5t : (Tt.tp w1 T 0).heap[g5]? = some (.cells #[.int .i64 q] 3) := h5
  refine wpBM1 (t := t) (hslc.bl B1t) hn h5t ht (fun u8 u9 u10 u11 u12 u13 u14 u15 u16 u17 u18 w2 b2 => ⟨rfl, ?_⟩)
  have B2 := B1t.below b2 (Nat.le_refl _)
  have h52 := (blk_below b2 h5t).1
  clear B1 B1t h5 h5t b2
  cases t with
  | false =>
    have hm : busyM rs l q = -1 := by
      unfold busyM
      rw [if_neg]
      rintro ⟨x, y, z⟩
      rw [x] at ht
      simp [inB, y, z] at ht
    refine JO.cond L (t := true) hfo rfl ?_
    refine JO.seq L hfo ?_
    refine JO.piece L (by kernel_rfl) hfo (fun T => ?_)
    refine wpBM2 ⟨rfl, ?_⟩
    refine JO.ret L hfo ?_
    exact hback _ _ (.int .i64 (-1)) _ rfl (B2.tp T 0) (by rw [hm])
  | true =>
    have hcl : clockB rs q = true ∧ 1 ≤ l ∧ l ≤ 6 := by simpa [inB] using ht.symm
    have hm : busyM rs l q = sumR (busyF l q) rs := by unfold busyM; rw [if_pos hcl]
    refine JO.cond L (t := false) hfo rfl ?_
    refine JO.skip L hfo ?_
    refine JO.seq L hfo ?_
    refine JO.piece L (by kernel_rfl) hfo (fun T => ?_)
    have B2t := B2.tp T 0
    have h52t : (Tt.tp w2 T 0).heap[g5]? = some (.cells #[.int .i64 q] 3) := h52
    generalize Tt.tp w2 T 0 = w3 at B2t h52t ⊢
    clear B2 h52
    refine wpBM3 ⟨rfl, ?_⟩
    have hz3 := B2t.size
    have hlt5 := blk_lt h52t
    obtain ⟨gm, hgm⟩ : ∃ g, g = w3.heap.size := ⟨_, rfl⟩
    have B3 := (B2t.al (Nat.le_refl _) (.map #[] 0)).al (Nat.le_refl _) (.cells #[.map (some w3.heap.size)] 59)
    have h53 := blk_alloc (blk_alloc h52t (.map #[] 0)) (.cells #[.map (some w3.heap.size)] 59)
    have e1 : (w3.alloc (.map #[] 0)).heap.size = gm + 1 := by rw [size_push, hgm]
    have h73 : ((w3.alloc (.map #[] 0)).alloc (.cells #[.map (some w3.heap.size)] 59)).heap[gm + 1]? = some (.cells #[.map (some gm)] 59) := by rw [← e1, heap_push, hgm]
    have hm3 : SumsM ((w3.alloc (.map #[] 0)).alloc (.cells #[.map (some w3.heap.size)] 59)) gm 0 (.map []) := by
      rw [hgm]; exact (World.ownsMap_made w3 _ _ _).alloc _
    have hlt3 : gm + 1 < ((w3.alloc (.map #[] 0)).alloc (.cells #[.map (some w3.heap.size)] 59)).heap.size := blk_lt h73
    rw [← hgm] at B3 h53 h73 hm3 hlt3 ⊢
    rw [← hgm] at hz3 hlt5
    generalize (w3.alloc (.map #[] 0)).alloc (.cells #[.map (some gm)] 59) = w4 at B3 h53 h73 hm3 hlt3 ⊢
    clear B2t h52t
    refine JO.seq L hfo ?_
    rw [rBM4_eq]
    refine JO.reg L hfo ?_
    rw [ops4B_range]
    refine JO.opv L (v := .slice A n cap) hfo ops4B_0 rfl (fun T e => rfl) ?_
    simp only [Go.Act.put, List.setIfInBounds_toArray, List.set_cons_zero, List.set_cons_succ]
    refine JO.opv L (v := .func (.func 36) #[] #[.pointer (some ⟨gm + 1, 0, none⟩), .pointer (some ⟨g5, 0, none⟩)]) hfo ops4B_1 rfl (fun T e => (exec_makeFunc (f := 36) (first := #[]) (cap := #[.tmp 7, .tmp 5]) rfl _).trans (by simp [Go.Act.eval])) ?_
    simp only [Go.Act.put, List.setIfInBounds_toArray, List.set_cons_zero, List.set_cons_succ]
    have hI := busyI (B := w.heap.size) (wb := ghostM w4 src 76) (g5 := g5) (g7 := gm + 1) (gm := gm) hcl.1 (by omega) (by omega) ⟨by omega, by rw [ghostM_size]; have := B3.size; omega⟩
    refine jo_each (ops := ops4B) (i := 2) (o := oB2) (src := src) (rs := rs) (f := 36) (capt := #[.pointer (some ⟨gm + 1, 0, none⟩), .pointer (some ⟨g5, 0, none⟩)]) rfl rfl ops4B_2 rfl rfl (by kernel_rfl) (by simp [Fm.eval]) (srcOk_bl hs B3) hlo (hslc.bl B3) hn hI (by kernel_rfl) ?_ (fun wn hin => ?_)
    · have hne : ∀ x, w.heap.size ≤ x → ∀ b, src = some b → b.rb ≠ x := fun x hx b e e2 => by have := hsrc b e; omega
      refine ⟨?_, ?_, ⟨_, ?_, isMap_empty, fun l => ?_⟩, Nat.le_refl _, fun _ _ => rfl⟩
      · rw [ghostM_at (by omega) (hne _ (by omega))]; exact h53
      · rw [ghostM_at (by omega) (hne _ (by omega))]; exact h73
      · obtain ⟨es, cl, hb, F, hsz, hD⟩ := hm3
        exact ⟨es, cl, (ghostM_at (by omega) (hne _ (by omega))).trans hb, F, hsz, hD⟩
      · simp [sumR]; rfl
    · have hne : ∀ x, w.heap.size ≤ x → ∀ b, src = some b → b.rb ≠ x := fun x hx b e e2 => by have := hsrc b e; omega
      have hwz := hin.size
      rw [ghostM_size] at hwz
      have B5 := thaw_bl (srcOk_bl hs B3) B3 (Nat.le_refl _) hin.old (by omega) hsrc
      have h75 : (thaw wn src).heap[gm + 1]? = some (.cells #[.map (some gm)] 59) := (thaw_at (hne _ (by omega))).trans hin.c7
      obtain ⟨D, hD1, _, hD3⟩ := hin.m
      have hm5 : SumsM (thaw wn src) gm n D := by
        obtain ⟨es, cl, hb, F, hsz, hD⟩ := hD1
        exact ⟨es, cl, (thaw_at (hne _ (by omega))).trans hb, F, hsz, hD⟩
      have hq := hD3 l
      rw [List.take_of_length_le (by rw [hslc.recLen]; exact Nat.le_refl _)] at hq
      simp only [Fm.fin, ops4B_2, Option.bind_some, List.setIfInBounds_toArray, List.set_cons_zero, List.set_cons_succ]
      refine JO.regEnd L hfo ?_
      refine JO.seq L hfo ?_
      refine JO.piece L (by kernel_rfl) hfo (fun T => ?_)
      have B5t := B5.tp T 0
      have h75t : (Tt.tp (thaw wn src) T 0).heap[gm + 1]? = some (.cells #[.map (some gm)] 59) := h75
      have hm5t : SumsM (Tt.tp (thaw wn src) T 0) gm n D := hm5
      refine wpBM5 hm5t h75t hcl.2 hq (fun u24 u25 u26 => ⟨rfl, ?_⟩)
      refine JO.ret L hfo ?_
      exact hback _ _ (.int .i64 (sumR (busyF l q) rs)) _ rfl B5t (by rw [hm])
end
end Go.Proofs.Ytjcpjijihajopaa
namespace Go.Proofs.Ytjcpjijihajopaa
open Go.RowKit Go.Mt Go.Conc Go.Tt Go.Maps
set_option linter.unusedVariables false
section
variable {p : Program} {op gs gs₁ fs : FuncId → Bool} {St : Nat → Prop} {W0 : World} {Post : Value → World → Prop}
theorem JO.pieceQ (L : Lv p op gs gs₁ fs) {fn : FuncId} {tmps : Array Value} {c : Code} {k : List Item} {b : List Fm} {w : World} (hc : fitCode p ⟨fs, gs₁, false⟩ c = true) (hfn : op fn = false)
    (hwp : ∀ (T : Tape) (Q : Exit → Go.Act → World → Prop), Hid (∀ a' w', JL p op gs fs St W0 Post ⟨fn, a'.tmps, k, false⟩ b w' → Q .normal a' w') → Code.wp p c Q ⟨tmps, []⟩ (Tt.tp w T 0)) :
    JL p op gs fs St W0 Post ⟨fn, tmps, .code c :: k, false⟩ b w :=
  JO.piece L hc hfn fun T => hwp T _ (Lib.hid fun a' w' h => ⟨rfl, h⟩)
theorem JO.tailQ (L : Lv p op gs gs₁ fs) {fn : FuncId} {tmps : Array Value} {c : Code} {b : List Fm} {w : World} (hc : fitCode p ⟨fs, gs₁, false⟩ c = true) (hfn : op fn = false)
    (hwp : ∀ (T : Tape) (Q : Exit → Go.Act → World → Prop), Hid (∀ a' w', (∀ todo, JL p op gs fs St W0 Post ⟨fn, a'.tmps, todo, true⟩ b w') → Q .ret a' w') → Code.wp p c Q ⟨tmps, []⟩ (Tt.tp w T 0)) :
    JL p op gs fs St W0 Post ⟨fn, tmps, [.code c], false⟩ b w :=
  JO.tail L hc hfn fun T => hwp T _ (Lib.hid fun a' w' h => ⟨.inr rfl, h⟩)
end
theorem Slc.tp {w : World} {lo hi s n c : Nat} {A : Option Addr} {xs : List Value} (h : Slc w lo hi s A n c xs) (T : Tape) (e : Nat) : Slc (Tt.tp w T e) lo hi s A n c xs := ⟨h.len, h.le, h.cap, h.at_⟩
theorem OwnV.tp {w : World} {E lo hi s n c : Nat} {A : Option Addr} {xs : List Value} (h : OwnV E s w lo hi A n c xs) (T : Tape) (e : Nat) : OwnV E s (Tt.tp w T e) lo hi A n c xs := ⟨h.slc.tp T e, h.blk⟩
theorem Slc.bls {w w' : World} {lo hi s n c B : Nat} {A : Option Addr} {xs : List Value} (h : Slc w lo hi s A n c xs) (k : Bl B w w') (hB : w.heap.size ≤ B) : Slc w' lo hi s A n c xs := h.keep k.size fun b _ _ h3 => k.block b (by omega)
theorem OwnV.bls {w w' : World} {E lo hi s n c B : Nat} {A : Option Addr} {xs : List Value} (h : OwnV E s w lo hi A n c xs) (k : Bl B w w') (hB : w.heap.size ≤ B) : OwnV E s w' lo hi A n c xs := h.keep k.size fun b _ _ h3 => k.block b (by omega)
theorem Bl.chg {B lo hi : Nat} {a b c : World} (h : Bl B a b) (k : Chg lo hi b c) (hB : B ≤ lo) (h2 : B ≤ b.heap.size) : Bl B a c := ⟨Nat.le_trans h.size k.size, fun x hx => (k.block x (by omega) (by omega)).trans (h.block x hx)⟩
theorem Bl.then {B B' : Nat} {a b c : World} (h : Bl B a b) (k : Bl B' b c) (hB : B ≤ B') : Bl B a c := ⟨Nat.le_trans h.size k.size, fun x hx => (k.block x (by omega)).trans (h.block x hx)⟩
theorem Bl.below' {B : Nat} {a b c : World} (h : Bl B a b) (k : Below b.heap.size b c) (hB : B ≤ b.heap.size) : Bl B a c := ⟨Nat.le_trans h.size k.size, fun x hx => (k.block x (by omega)).trans (h.block x hx)⟩
theorem blk_bl {B : Nat} {a b : World} (h : Bl B a b) {N : Nat} {o : Obj} (hN : a.heap[N]? = some o) (hB : N < B) : b.heap[N]? = some o := (h.block N hB).trans hN
end Go.Proofs.Ytjcpjijihajopaa
