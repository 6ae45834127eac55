/-
  'FnExactWaitedMinutes' answers true whatever the input, and its arguments read afterwards as before. No condition.
-/
import Derived.Test.YtjcpjijihajopaaOpenR
import Derived.Test.YtjcpjijihajopaaLawWJ
import Derived.Conc.LeavingOf
set_option linter.unusedSectionVars false
set_option linter.unusedSimpArgs false
set_option linter.unusedVariables false
namespace Go.Proofs.Ytjcpjijihajopaa.fnExactWaitedMinutes
open Go.RowKit Go.ChangeShapes Go.WideShapes Go.ChangeAt Go.Joins Go.Deep Go.Conc Go.Mt Go.Tt
set_option linter.unusedVariables false
theorem laid0 : Try.prog.globals.size < (begin Try.prog (fun _ _ => 0) default).world.heap.size := of_decide_eq_true (by kernel_rfl)
theorem shaped_size {W : World} (h : W.ShapedOpen Try.prog) : Try.prog.globals.size ≤ W.heap.size := by
  obtain ⟨_, h2⟩ := h
  obtain ⟨o, _, h3, _⟩ := h2 Try.prog.globals.size (Nat.le_refl _) laid0
  exact Nat.le_of_lt (Array.getElem?_eq_some_iff.1 h3).1
set_option maxRecDepth 100000 in
set_option maxHeartbeats 2000000 in
theorem lifted (os : Os) (started : os.Started) (H : Type) (enc : TypeId × Value → H) :
    ReturnsInLeavingWide {} Try.checked os 4 .any (Rows.fnExactWaitedMinutesSpec.pre6 enc Try.prog Try.f4 Rows.fnExactWaitedMinutesRow.domain false) (Rows.fnExactWaitedMinutesSpec.post enc Try.prog Try.f4 false true false false) := by
  refine returnsInLeavingWide_of_good (C := Try.checked) own started
    (ChangeSpec.witness6 (enc := enc) (C := Try.checked) false ⟨#[], #[.slice none 0 0, .int .i64 0, .int .i64 0], []⟩ 8 (by kernel_rfl) (by kernel_rfl) (by kernel_rfl) (by kernel_rfl)) ?_
  intro w tape i _ hsh0 _ hok hpre _
  obtain ⟨_, _, _, fn', hfn', _, _, _, _, hval0⟩ := hok
  obtain rfl : fn' = Try.f4 := Option.some.inj (hfn'.symm.trans Try.func4)
  obtain ⟨⟨ds, gs, before, hw, hc⟩, hz⟩ := hpre
  have hG := shaped_size hsh0
  have hW0 := DataW.Whole.of_heap (w' := w.forCall tape i) (by rfl) hw
  clear hw hz hsh0 hc
  obtain ⟨ib, args, iv⟩ := i
  generalize hWW : w.forCall tape ⟨ib, args, iv⟩ = W at *
  have hval : ∀ (j : Nat) t v, Try.f4.params[j]? = some t → args[j]? = some v → Value.okWide Try.prog W .any w.heap.size t v := hval0
  have hW : DataW.Whole enc Try.prog Try.f4.params.toList Rows.fnExactWaitedMinutesSpec.vars false W args.toList ds gs before := hW0
  clear hval0 hW0
  have hW' := hW
  obtain ⟨p, q, hA0, hV, rfl, hfz, hnd⟩ := hW
  have hA : DataW.TrodAll enc Try.prog W 0 (fun _ => true) true Try.f4.params.toList args.toList ds p := hA0
  rw [Try.params4] at hA hval
  obtain ⟨v0, vs0, d0, ds0, p0, q0, hargs, rfl, rfl, h0, r0⟩ := trodAll_cons hA
  obtain ⟨v1, vs1, d1, ds1, p1, q1, rfl, rfl, rfl, h1, r1⟩ := trodAll_cons r0
  obtain ⟨v2, vs2, d2, ds2, p2, q2, rfl, rfl, rfl, h2, r2⟩ := trodAll_cons r1
  obtain ⟨rfl, rfl, rfl⟩ := trodAll_nil r2
  obtain rfl : args = #[v0, v1, v2] := by cases args; simp_all
  obtain ⟨rfl, rfl⟩ := trodVars_none hV
  have k0 := h0
  have lt0 : ∀ x ∈ p0, x.block < W.heap.size := by obtain ⟨m, hm⟩ := k0; exact DataW.trod_lt m _ _ _ hm
  obtain ⟨A0, n0, c0, rfl⟩ := okWide_slice Try.underlying22 (hval 0 22 v0 rfl rfl)
  have hblk := slice_block Try.underlying22 (hval 0 22 _ rfl rfl)
  obtain ⟨a1, rfl, rfl, rfl, wa1⟩ := open_int Try.underlying3 (hval 1 3 v1 rfl rfl) h1
  obtain ⟨a2, rfl, rfl, rfl, wa2⟩ := open_int Try.underlying3 (hval 2 3 v2 rfl rfl) h2
  obtain ⟨rs, m0, hstr⟩ := read_records Try.underlying22 (by kernel_rfl) Try.underlying54 rfl rfl rfl rfl rfl rfl rfl Try.underlying3 Try.underlying3 Try.underlying3 Try.underlying3 Try.underlying3 Try.underlying3 Try.underlying9 (by kernel_rfl) (by kernel_rfl) (by kernel_rfl) (by kernel_rfl) (by kernel_rfl) (by kernel_rfl) (by kernel_rfl) h0
  clear hA0
  obtain ⟨src, hsA, hsrc, hcell⟩ := start_src (S := SF fsF) hblk
  have hslc : Slc (gStart W src) 0 (gStart W src).heap.size 7 A0 n0 c0 (recs rs) := ⟨m0.len, m0.le, m0.cap, fun hn => by
    obtain ⟨b, off, rfl, e1, e2, e3, e4⟩ := m0.at_ hn
    exact ⟨b, off, rfl, Nat.zero_le _, by rw [gStart_size]; exact e3, by rw [gStart_size]; exact e3, fun j v hv => hcell _ rfl _ _ (e4 j v hv) (recs_plain v (List.mem_of_getElem? hv))⟩⟩
  have hJ := jo_law_wait (St := St0 src) (W0 := W) (Post := fun v w' => v = .bool true ∧ Below W.heap.size W w') (l := a1) (q := a2) hslc hstr (by rw [gStart_size]; exact hG) (fun R W' hk => ⟨rfl, hk.below⟩)
  have hxs : ArR (SF fsF) P0 (R0 src) #[.slice A0 n0 c0, .int .i64 a1, .int .i64 a2] #[.slice A0 n0 c0, .int .i64 a1, .int .i64 a2] := ((ArR.empty.push (.slice hsA)).push (.int _ _)).push (.int _ _)
  have hent : (#[.slice A0 n0 c0, .int .i64 a1, .int .i64 a2] : Array Value) ++ Array.replicate ((Try.f4).ntmps - (#[.slice A0 n0 c0, .int .i64 a1, .int .i64 a2] : Array Value).size) undef = #[.slice A0 n0 c0, .int .i64 a1, .int .i64 a2, undef, undef, undef, undef, undef, undef, undef, undef, undef, undef, undef, undef, undef, undef, undef, undef, undef, undef, undef, undef, undef, undef, undef, undef, undef, undef, undef, undef, undef, undef, undef, undef] := by
    have e : (Try.f4).ntmps = 35 := rfl
    rw [e]
    apply Array.ext'
    simp only [Array.toList_append, Array.toList_replicate, List.size_toArray, List.length_cons, List.length_nil]
    rfl
  have hbb : (Try.f4).body = some bodyLW := rfl
  rw [← hent] at hJ
  have hst := J.start (Post := fun v w' => v = .bool true ∧ Below W.heap.size W w') lvF (f := 4) (fn := Try.f4) (c := bodyLW) (by kernel_rfl) (by kernel_rfl) Try.func4 hbb hsrc hG hxs hJ
  obtain ⟨M, last, o, w', t', e1, e2, e3, e4⟩ := hst
  refine ⟨M, last, o, w', t', e1, e2, e3, e4.mono fun v hp => ChangeSpec.post_blind ?_⟩
  obtain ⟨rfl, bel⟩ := hp
  exact ⟨_, _, _, [], _, [], hW', trodAll_mk1 (shut_bool Try.underlying4 _), (trodAll_cons_mk (Below.trod laidOut (by kernel_rfl) (of_decide_eq_true (by kernel_rfl)) k0 bel lt0) (trodAll_cons_mk (shut_int Try.underlying3 wa1) (trodAll_cons_mk (shut_int Try.underlying3 wa2) trodAll_mk0))), rfl, bel.frame _, fun h => by cases h⟩
theorem over : Rows.fnExactWaitedMinutesRow.holds Try.pinned (OpenSpec.ofChange Rows.fnExactWaitedMinutesSpec) :=
  OpenClaim.holds_of_wide_leaving 4 Try.f4 rfl rfl rfl rfl rfl rfl rfl ⟨rfl, rfl, rfl, rfl, rfl⟩ rfl rfl rfl rfl rfl (by kernel_rfl) Try.func4 (by kernel_rfl)
    (of_decide_eq_true (by kernel_rfl)) (by unfold Func.isWrapper; first | (rw [if_pos (by decide +kernel)]; kernel_rfl) | (rw [if_neg (by decide +kernel)]; exact ⟨rfl, rfl⟩))
    (fun os started H enc _ => lifted os started H enc)
/-- THE STATEMENT. -/
theorem proved : Rows.FnExactWaitedMinutesSaid := over
#print axioms proved
end Go.Proofs.Ytjcpjijihajopaa.fnExactWaitedMinutes
