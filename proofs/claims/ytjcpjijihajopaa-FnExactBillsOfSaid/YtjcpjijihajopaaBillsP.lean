/-
  'FnExactBillsOf' answers true whatever the input, and its arguments read afterwards as before. No condition.
-/
import Derived.Test.YtjcpjijihajopaaOpenR
import Derived.Test.YtjcpjijihajopaaLawBillsJ
import Derived.Conc.LeavingOf
set_option linter.unusedSectionVars false
set_option linter.unusedSimpArgs false
set_option linter.unusedVariables false
namespace Go.Proofs.Ytjcpjijihajopaa.fnExactBillsOf
open Go.RowKit Go.ChangeShapes Go.WideShapes Go.ChangeAt Go.Joins Go.Deep Go.Conc Go.Mt Go.Tt
set_option linter.unusedVariables false
theorem laid0 : Try.prog.globals.size < (begin Try.prog (fun _ _ => 0) default).world.heap.size := of_decide_eq_true (by kernel_rfl)
theorem shaped_size {W : World} (h : W.ShapedOpen Try.prog) : Try.prog.globals.size ≤ W.heap.size := by
  obtain ⟨_, h2⟩ := h
  obtain ⟨o, _, h3, _⟩ := h2 Try.prog.globals.size (Nat.le_refl _) laid0
  exact Nat.le_of_lt (Array.getElem?_eq_some_iff.1 h3).1
theorem vr_ints {S : FuncId → Prop} {K R : Pr} (l : List Int) : VR S K R (.agg (l.map (Value.int .i64)).toArray) (.agg (l.map (Value.int .i64)).toArray) :=
  .agg rfl fun i u v h1 h2 => by
    rw [h1] at h2
    injection h2 with h2
    subst h2
    simp at h1
    obtain ⟨a, _, rfl⟩ := h1
    exact .int _ _
set_option maxRecDepth 100000 in
set_option maxHeartbeats 2000000 in
theorem lifted (os : Os) (started : os.Started) (H : Type) (enc : TypeId × Value → H) :
    ReturnsInLeavingWide {} Try.checked os 6 .any (Rows.fnExactBillsOfSpec.pre6 enc Try.prog Try.f6 Rows.fnExactBillsOfRow.domain false) (Rows.fnExactBillsOfSpec.post enc Try.prog Try.f6 false true false false) := by
  refine returnsInLeavingWide_of_good (C := Try.checked) own started
    (ChangeSpec.witness6 (enc := enc) (C := Try.checked) false ⟨#[], #[.agg #[.int .i64 0, .int .i64 0, .int .i64 0], .slice none 0 0], []⟩ 8 (by kernel_rfl) (by kernel_rfl) (by kernel_rfl) (by kernel_rfl)) ?_
  intro w tape i _ hsh0 _ hok hpre _
  obtain ⟨_, _, _, fn', hfn', _, _, _, _, hval0⟩ := hok
  obtain rfl : fn' = Try.f6 := Option.some.inj (hfn'.symm.trans Try.func6)
  obtain ⟨⟨ds, gs, before, hw, hc⟩, hz⟩ := hpre
  have hG := shaped_size hsh0
  have hW0 := DataW.Whole.of_heap (w' := w.forCall tape i) (by rfl) hw
  clear hw hz hsh0 hc
  obtain ⟨ib, args, iv⟩ := i
  generalize hWW : w.forCall tape ⟨ib, args, iv⟩ = W at *
  have hval : ∀ (j : Nat) t v, Try.f6.params[j]? = some t → args[j]? = some v → Value.okWide Try.prog W .any w.heap.size t v := hval0
  have hW : DataW.Whole enc Try.prog Try.f6.params.toList Rows.fnExactBillsOfSpec.vars false W args.toList ds gs before := hW0
  clear hval0 hW0
  have hW' := hW
  obtain ⟨p, q, hA0, hV, rfl, hfz, hnd⟩ := hW
  have hA : DataW.TrodAll enc Try.prog W 0 (fun _ => true) true Try.f6.params.toList args.toList ds p := hA0
  rw [Try.params6] at hA hval
  obtain ⟨v0, vs0, d0, ds0, p0, q0, hargs, rfl, rfl, h0, r0⟩ := trodAll_cons hA
  obtain ⟨v1, vs1, d1, ds1, p1, q1, rfl, rfl, rfl, h1, r1⟩ := trodAll_cons r0
  obtain ⟨rfl, rfl, rfl⟩ := trodAll_nil r1
  obtain rfl : args = #[v0, v1] := by cases args; simp_all
  obtain ⟨rfl, rfl⟩ := trodVars_none hV
  have k0 := h0
  have lt0 : ∀ x ∈ p0, x.block < W.heap.size := by obtain ⟨m, hm⟩ := k0; exact DataW.trod_lt m _ _ _ hm
  obtain ⟨c0_0, c0_1, c0_2, y0_0, y0_1, y0_2, n0, rfl, rfl, rfl, hy0_0, hy0_1, hy0_2⟩ := open_agg3 Try.underlying30 (by kernel_rfl) (by kernel_rfl) (hval 0 30 v0 rfl rfl) h0
  obtain ⟨a0_0, e0_0, rfl, wa0_0⟩ := DataW.trod_int Try.underlying3 hy0_0
  obtain ⟨a0_1, e0_1, rfl, wa0_1⟩ := DataW.trod_int Try.underlying3 hy0_1
  obtain ⟨a0_2, e0_2, rfl, wa0_2⟩ := DataW.trod_int Try.underlying3 hy0_2
  simp at e0_0 e0_1 e0_2
  subst e0_0 e0_1 e0_2
  have k1 := h1
  have lt1 : ∀ x ∈ p1, x.block < W.heap.size := by obtain ⟨m, hm⟩ := k1; exact DataW.trod_lt m _ _ _ hm
  obtain ⟨A1, n1, c1, rfl⟩ := okWide_slice Try.underlying22 (hval 1 22 v1 rfl rfl)
  have hblk := slice_block Try.underlying22 (hval 1 22 _ rfl rfl)
  obtain ⟨rs, m1, hstr⟩ := read_records Try.underlying22 (by kernel_rfl) Try.underlying54 rfl rfl rfl rfl rfl rfl rfl Try.underlying3 Try.underlying3 Try.underlying3 Try.underlying3 Try.underlying3 Try.underlying3 Try.underlying9 (by kernel_rfl) (by kernel_rfl) (by kernel_rfl) (by kernel_rfl) (by kernel_rfl) (by kernel_rfl) (by kernel_rfl) h1
  clear hA0
  obtain ⟨src, hsA, hsrc, hcell⟩ := start_src (S := SF fsF) hblk
  have hslc : Slc (gStart W src) 0 (gStart W src).heap.size 7 A1 n1 c1 (recs rs) := ⟨m1.len, m1.le, m1.cap, fun hn => by
    obtain ⟨b, off, rfl, e1, e2, e3, e4⟩ := m1.at_ hn
    exact ⟨b, off, rfl, Nat.zero_le _, by rw [gStart_size]; exact e3, by rw [gStart_size]; exact e3, fun j v hv => hcell _ rfl _ _ (e4 j v hv) (recs_plain v (List.mem_of_getElem? hv))⟩⟩
  have hJ := jo_law_LS (T := ⟨a0_0, a0_1, a0_2⟩) (rs := rs) (St := St0 src) (W0 := W) (Post := fun v w' => v = .bool true ∧ Below W.heap.size W w') hslc hstr (by rw [gStart_size]; exact hG) (fun R W' hk => ⟨rfl, hk.below⟩)
  have hxs : ArR (SF fsF) P0 (R0 src) #[.agg #[.int .i64 a0_0, .int .i64 a0_1, .int .i64 a0_2], .slice A1 n1 c1] #[.agg #[.int .i64 a0_0, .int .i64 a0_1, .int .i64 a0_2], .slice A1 n1 c1] := ((ArR.empty.push (vr_ints [a0_0, a0_1, a0_2])).push (.slice hsA))
  have hent : (#[.agg #[.int .i64 a0_0, .int .i64 a0_1, .int .i64 a0_2], .slice A1 n1 c1] : Array Value) ++ Array.replicate ((Try.f6).ntmps - (#[.agg #[.int .i64 a0_0, .int .i64 a0_1, .int .i64 a0_2], .slice A1 n1 c1] : Array Value).size) undef = #[.agg #[.int .i64 a0_0, .int .i64 a0_1, .int .i64 a0_2], .slice A1 n1 c1, undef, undef, undef, undef, undef, undef, undef, undef, undef, undef, undef, undef, undef, undef, undef, undef, undef, undef, undef, undef, undef, undef, undef, undef, undef, undef, undef, undef, undef, undef, undef, undef, undef, undef, undef, undef, undef, undef, undef, undef, undef, undef, undef, undef, undef, undef, undef, undef, undef, undef, undef, undef, undef, undef, undef, undef, undef, undef, undef, undef, undef, undef, undef, undef, undef, undef, undef, undef, undef, undef, undef, undef, undef, undef, undef, undef, undef, undef, undef, undef, undef, undef, undef, undef, undef, undef, undef, undef, undef, undef, undef, undef, undef, undef, undef, undef, undef, undef, undef, undef, undef, undef] := by
    have e : (Try.f6).ntmps = 104 := rfl
    rw [e]
    apply Array.ext'
    simp only [Array.toList_append, Array.toList_replicate, List.size_toArray, List.length_cons, List.length_nil]
    rfl
  have hbb : (Try.f6).body = some bodyLS := rfl
  rw [← hent] at hJ
  have hst := J.start (Post := fun v w' => v = .bool true ∧ Below W.heap.size W w') lvF (f := 6) (fn := Try.f6) (c := bodyLS) (by kernel_rfl) (by kernel_rfl) Try.func6 hbb hsrc hG hxs hJ
  obtain ⟨M, last, o, w', t', e1, e2, e3, e4⟩ := hst
  refine ⟨M, last, o, w', t', e1, e2, e3, e4.mono fun v hp => ChangeSpec.post_blind ?_⟩
  obtain ⟨rfl, bel⟩ := hp
  exact ⟨_, _, _, [], _, [], hW', trodAll_mk1 (shut_bool Try.underlying4 _), (trodAll_cons_mk (Below.trod laidOut (by kernel_rfl) (of_decide_eq_true (by kernel_rfl)) k0 bel lt0) (trodAll_cons_mk (Below.trod laidOut (by kernel_rfl) (of_decide_eq_true (by kernel_rfl)) k1 bel lt1) trodAll_mk0)), rfl, bel.frame _, fun h => by cases h⟩
theorem over : Rows.fnExactBillsOfRow.holds Try.pinned (OpenSpec.ofChange Rows.fnExactBillsOfSpec) :=
  OpenClaim.holds_of_wide_leaving 6 Try.f6 rfl rfl rfl rfl rfl rfl rfl ⟨rfl, rfl, rfl, rfl, rfl⟩ rfl rfl rfl rfl rfl (by kernel_rfl) Try.func6 (by kernel_rfl)
    (of_decide_eq_true (by kernel_rfl)) (by unfold Func.isWrapper; first | (rw [if_pos (by decide +kernel)]; kernel_rfl) | (rw [if_neg (by decide +kernel)]; exact ⟨rfl, rfl⟩))
    (fun os started H enc _ => lifted os started H enc)
/-- THE STATEMENT. -/
theorem proved : Rows.FnExactBillsOfSaid := over
#print axioms proved
end Go.Proofs.Ytjcpjijihajopaa.fnExactBillsOf
