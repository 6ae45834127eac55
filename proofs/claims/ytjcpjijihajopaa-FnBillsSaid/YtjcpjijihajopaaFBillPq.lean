/-
 'FnBills' answers true whatever the input, and its arguments read afterwards as before. No condition.
-/
import Derived.Conc.LeavingOf
import Derived.Test.YtjcpjijihajopaaFBillPq14
set_option linter.unusedSectionVars false
set_option linter.unusedSimpArgs false
set_option linter.unusedVariables false
namespace Go.Proofs.Ytjcpjijihajopaa.fnBills
open Go.RowKit Go.ChangeShapes Go.WideShapes Go.ChangeAt Go.Joins Go.Deep Go.Conc Go.Mt Go.Tt
theorem laid0 : Try.prog.globals.size < (begin Try.prog (λ _ _ => 0) default).world.heap.size := of_decide_eq_true (by kernel_rfl)
theorem shaped_size {W : World} (h : W.ShapedOpen Try.prog) : Try.prog.globals.size <= W.heap.size := by
 obtain ⟨_, h2⟩ := h
 obtain ⟨o, _, h3, _⟩ := h2 Try.prog.globals.size (Nat.le_refl _) laid0
 exact Nat.le_of_lt (Array.getElem?_eq_some_iff.1 h3).1
theorem vr_ints {S : FuncId -> Prop} {K R : Pr} (l : List Int) : VR S K R (.agg (l.map (Value.int .i64)).toArray) (.agg (l.map (Value.int .i64)).toArray) :=
 .agg rfl λ i u v h1 h2 => by
   rw [h1] at h2
   injection h2 with h2
   subst h2
   simp at h1
   obtain ⟨a, _, rfl⟩ := h1
   exact .int _ _
set_option maxRecDepth 100000 in
set_option maxHeartbeats 2000000 in
theorem lifted (os : Os) (started : os.Started) (H : Type) (enc : TypeId × Value -> H) :
   ReturnsInLeavingWide {} Try.checked os 8 .any (Rows.fnBillsSpec.pre6 enc Try.prog Try.f8 Rows.fnBillsRow.domain false) (Rows.fnBillsSpec.post enc Try.prog Try.f8 false true false false) := by
 refine returnsInLeavingWide_of_good (C := Try.checked) own started
   (ChangeSpec.witness6 (enc := enc) (C := Try.checked) false ⟨#[], #[.slice none 0 0], []⟩ 8 (by kernel_rfl) (by kernel_rfl) (by kernel_rfl) (by kernel_rfl)) ?_
 intro w tape i _ hsh0 _ hok hpre _
 obtain ⟨_, _, _, fn', hfn', _, _, _, _, hval0⟩ := hok
 obtain rfl : fn' = Try.f8 := Option.some.inj (hfn'.symm.trans Try.func8)
 obtain ⟨⟨ds, gs, before, hw, hc⟩, hz⟩ := hpre
 have hG := shaped_size hsh0
 have hW0 := DataW.Whole.of_heap (w' := w.forCall tape i) (by rfl) hw
 clear hw hz hsh0 hc
 obtain ⟨ib, args, iv⟩ := i
 generalize hWW : w.forCall tape ⟨ib, args, iv⟩ = W at *
 have hval : ∀ (j : Nat) t v, Try.f8.params[j]? = some t -> args[j]? = some v -> Value.okWide Try.prog W .any w.heap.size t v := hval0
 have hW : DataW.Whole enc Try.prog Try.f8.params.toList Rows.fnBillsSpec.vars false W args.toList ds gs before := hW0
 clear hval0 hW0
 have hW' := hW
 obtain ⟨p, q, hA0, hV, rfl, hfz, hnd⟩ := hW
 have hA : DataW.TrodAll enc Try.prog W 0 (λ _ => true) true Try.f8.params.toList args.toList ds p := hA0
 rw [Try.params8] at hA hval
 obtain ⟨v0, vs0, d0, ds0, p0, q0, hargs, rfl, rfl, h0, r0⟩ := trodAll_cons hA
 obtain ⟨rfl, rfl, rfl⟩ := trodAll_nil r0
 obtain rfl : args = #[v0] := by cases args; simp_all
 obtain ⟨rfl, rfl⟩ := trodVars_none hV
 have k0 := h0
 have lt0 : ∀ x ∈ p0, x.block < W.heap.size := by obtain ⟨m, hm⟩ := k0; exact DataW.trod_lt m _ _ _ hm
 obtain ⟨A0, n0, c0, rfl⟩ := okWide_slice Try.underlying41 (hval 0 41 v0 rfl rfl)
 have hblk := slice_block Try.underlying41 (hval 0 41 _ rfl rfl)
 have m0 := read_bytes Try.underlying41 Try.underlying5 (by kernel_rfl) h0
 clear hA0
 obtain ⟨src, hsA, hsrc, hcell⟩ := start_src (S := SF fsF) hblk
 have hcd : Code (gStart W src) A0 n0 c0 := ⟨m0.le, m0.cap, λ hn => by
   obtain ⟨b, off, rfl, e3, e4⟩ := m0.at_ hn
   exact ⟨b, off, rfl, by rw [gStart_size]; exact e3, λ j hj => by obtain ⟨v, h1, h2, h3⟩ := e4 j hj; exact ⟨v, hcell _ rfl _ _ h1 (.inl ⟨_, _, rfl⟩), h2, h3⟩⟩⟩
 have hJ := jo_law_fb (St := St0 src) (W0 := W) (Post := λ v w' => v = .bool true /\ Below W.heap.size W w') hcd (by rw [gStart_size]; exact hG) (λ R W' hk => ⟨rfl, hk.below⟩)
 have hxs : ArR (SF fsF) P0 (R0 src) #[.slice A0 n0 c0] #[.slice A0 n0 c0] := (ArR.empty.push (.slice hsA))
 have hent : (#[.slice A0 n0 c0] : Array Value) ++ Array.replicate ((Try.f8).ntmps - (#[.slice A0 n0 c0] : Array Value).size) undef = #[.slice A0 n0 c0, undef, undef, undef, undef, undef, undef, undef, undef, undef, undef, undef, undef, undef, undef, undef, undef, undef, undef, undef, undef, undef, undef, undef, undef, undef, undef, undef, undef, undef, undef, undef, undef, undef, undef, undef, undef, undef, undef, undef, undef, undef, undef, undef, undef, undef, undef, undef, undef, undef, undef, undef, undef, undef, undef, undef, undef, undef, undef, undef, undef, undef, undef, undef, undef, undef, undef, undef, undef, undef, undef, undef, undef, undef, undef, undef, undef, undef, undef, undef, undef, undef, undef, undef, undef, undef, undef, undef, undef, undef, undef, undef, undef, undef, undef, undef, undef, undef, undef, undef, undef, undef, undef, undef, undef, undef, undef, undef, undef, undef, undef, undef, undef, undef, undef, undef, undef, undef, undef, undef, undef, undef, undef, undef, undef, undef, undef, undef, undef, undef, undef, undef, undef, undef, undef, undef, undef, undef, undef, undef, undef, undef, undef, undef, undef, undef, undef, undef, undef, undef, undef, undef, undef, undef, undef, undef, undef, undef, undef, undef, undef, undef, undef, undef, undef, undef, undef, undef, undef, undef, undef, undef, undef, undef, undef, undef, undef, undef, undef, undef, undef, undef, undef, undef, undef, undef, undef, undef, undef, undef, undef] := by
   have e : (Try.f8).ntmps = 191 := rfl
   rw [e]
   apply Array.ext'
   simp only [Array.toList_append, Array.toList_replicate, List.size_toArray, List.length_cons, List.length_nil]
   rfl
 have hbb : (Try.f8).body = some bodyFB := rfl
 rw [<- hent] at hJ
 have hst := J.start (Post := λ v w' => v = .bool true /\ Below W.heap.size W w') lvF (f := 8) (fn := Try.f8) (c := bodyFB) (by kernel_rfl) (by kernel_rfl) Try.func8 hbb hsrc hG hxs hJ
 obtain ⟨M, last, o, w', t', e1, e2, e3, e4⟩ := hst
 refine ⟨M, last, o, w', t', e1, e2, e3, e4.mono λ v hp => ChangeSpec.post_blind ?_⟩
 obtain ⟨rfl, bel⟩ := hp
 exact ⟨_, _, _, [], _, [], hW', trodAll_mk1 (shut_bool Try.underlying4 _), (trodAll_cons_mk (Below.trod laidOut (by kernel_rfl) (of_decide_eq_true (by kernel_rfl)) k0 bel lt0) trodAll_mk0), rfl, bel.frame _, λ h => by cases h⟩
theorem over : Rows.fnBillsRow.holds Try.pinned (OpenSpec.ofChange Rows.fnBillsSpec) :=
 OpenClaim.holds_of_wide_leaving 8 Try.f8 rfl rfl rfl rfl rfl rfl rfl ⟨rfl, rfl, rfl, rfl, rfl⟩ rfl rfl rfl rfl rfl (by kernel_rfl) Try.func8 (by kernel_rfl)
   (of_decide_eq_true (by kernel_rfl)) (by unfold Func.isWrapper; first | (rw [if_pos (by decide +kernel)]; kernel_rfl) | (rw [if_neg (by decide +kernel)]; exact ⟨rfl, rfl⟩))
   (λ os started H enc _ => lifted os started H enc)
theorem proved : Rows.FnBillsSaid := over
#print axioms proved
end Go.Proofs.Ytjcpjijihajopaa.fnBills
