/-
  eachRecord, from the group's making to its return: the phase.
-/
import Derived.Test.YtjcpjijihajopaaEachS
import Derived.Test.YtjcpjijihajopaaMt7
set_option linter.unusedSectionVars false
set_option linter.unusedSimpArgs false
set_option linter.unusedVariables false
namespace Go.Proofs.Ytjcpjijihajopaa
open Go.RowKit Go.Mt Go.Conc Go.Tt Go.Conc.Lib Go.ConcR.Gen
set_option linter.unusedVariables false
noncomputable def mainCx (Wg c n : Nat) (val : Nat → Value) (Fin : Goroutine → World → Prop) (K : Pr) (St : Nat → Prop) (I : Pr → Terr → World → Prop) (base : List Frame) : Cx PpL :=
  { p := Try.prog, gs := gsF, fs := fsF, ty := wgl.tWg, Wg := Wg, A := pipe c n val, Fin := Fin, main := true, base := base, ds := .nil, K := K, St := St, I := I, pin := [(5, .pointer (some ⟨Wg, 0, none⟩))] }
abbrev shunG (Shun : Loc → Prop) (Wg : Nat) : Loc → Prop := fun l => Shun l ∨ onB l Wg
/-- Goroutine 0's judgement, as the phase leaves it. -/
abbrev finJ (Post : Value → World → Prop) (Shun : Loc → Prop) (Wg : Nat) : Goroutine → World → Prop := fun g w' => J Try.prog Post (shunG Shun Wg) w'.heap.size g w'
noncomputable def ops9 : Array Oper := match rEM9 with | .region _ ops _ => ops | _ => #[]
theorem rEM9_eq : rEM9 = .region 9 ops9 false := rfl
abbrev oper9 : Oper := ⟨some 17, .call ⟨.value (.func 57), #[.tmp 5], #[86]⟩, 0, "l8_bills.go:77", #[], none⟩
theorem ops9_at : ops9[0]? = some oper9 := rfl
theorem ops9_range : List.range ops9.size = [0] := rfl
set_option maxRecDepth 100000 in
theorem wait_ent (Wg : Nat) : Frame.enter Try.prog 57 #[.pointer (some ⟨Wg, 0, none⟩)] .normal = (Conc.base wgl.wait).at ⟨#[.pointer (some ⟨Wg, 0, none⟩), undef, undef, undef, undef, undef, undef, undef, undef, undef, undef, undef, undef, undef, undef, undef, undef, undef, undef, undef, undef, undef, undef, undef, undef, undef, undef, undef, undef, undef, undef, undef, undef, undef, undef, undef, undef, undef, undef, undef, undef, undef, undef, undef, undef, undef, undef, undef, undef, undef, undef, undef, undef, undef, undef, undef, undef, undef, undef, undef, undef, undef, undef, undef, undef, undef, undef, undef, undef, undef, undef, undef, undef, undef, undef, undef, undef, undef, undef, undef, undef, undef, undef, undef], []⟩ [.code (body_wait wgl)] := by
  have h := Conc.enter_at (P := Try.prog) (f := wgl.wait) (fn := waitFn wgl) (c := body_wait wgl) #[.pointer (some ⟨Wg, 0, none⟩)] wgLib.f_wait rfl
  rw [h]
  have e : (waitFn wgl).ntmps = 84 := rfl
  rw [e]
  walk_nrm
set_option maxRecDepth 100000 in
theorem add_ent (Wg : Nat) : Frame.enter Try.prog 54 #[.pointer (some ⟨Wg, 0, none⟩), .int .i64 1] .normal = (Conc.base wgl.add).at ⟨#[.pointer (some ⟨Wg, 0, none⟩), .int .i64 1, undef, undef, undef, undef, undef, undef, undef, undef, undef, undef, undef, undef, undef, undef, undef, undef, undef, undef, undef, undef, undef, undef, undef, undef, undef, undef, undef, undef, undef, undef, undef, undef, undef, undef, undef, undef, undef, undef, undef, undef, undef, undef, undef, undef, undef, undef, undef, undef, undef, undef, undef, undef, undef, undef, undef, undef, undef, undef, undef, undef, undef, undef, undef, undef, undef, undef, undef, undef, undef, undef, undef, undef, undef, undef, undef, undef, undef, undef, undef, undef, undef, undef, undef, undef, undef, undef, undef, undef, undef, undef, undef, undef, undef, undef, undef, undef, undef, undef, undef, undef, undef, undef, undef, undef, undef, undef, undef, undef, undef, undef, undef, undef, undef, undef, undef], []⟩ [.code (body_add wgl)] := by
  have h := Conc.enter_at (P := Try.prog) (f := wgl.add) (fn := addFn wgl) (c := body_add wgl) #[.pointer (some ⟨Wg, 0, none⟩), .int .i64 1] wgLib.f_add rfl
  rw [h]
  have e : (addFn wgl).ntmps = 117 := rfl
  rw [e]
  walk_nrm
section
variable {Post : Value → World → Prop} {Shun : Loc → Prop} {W0 : World} {St : Nat → Prop} {Wg c n : Nat} {rs : List RecD} {K : Pr} {StM : Nat → Prop} {IXX : Pr → Terr → World → Prop} {I : Nat → World → Prop} {cf : Frame} {cs : List Frame}
set_option maxHeartbeats 4000000 in
set_option maxRecDepth 100000 in
/-- THE WAIT. -/
theorem each_wait (hC : IOk (mainCx Wg c n (recVal rs) (finJ Post Shun Wg) K StM (withLive wgl.tWg Wg IXX) (cf :: cs))) (hX : IX wgl.tWg Wg IXX)
    (hcont : ∀ (R : Pr) (τ : Terr) (wn Wn : World), WRel (SF fsF) K R Try.prog.globals.size StM wn Wn → Terra τ R StM → IXX R τ Wn → I n wn → J Try.prog Post (shunG Shun Wg) Wn.heap.size (G (cf.finish (.tuple #[])) cs) Wn)
    (tmps : Array Value) (w : World) (hw : I n w) : BO (mainCx Wg c n (recVal rs) (finJ Post Shun Wg) K StM (withLive wgl.tWg Wg IXX) (cf :: cs)) .wt ⟨35, tmps, [.code rEM9], false⟩ w := by
  intro R W m' τ hr hm ht hi
  obtain ⟨fn', tmps', todo', ret'⟩ := m'
  obtain rfl := hm.fn
  obtain rfl := hm.todo
  obtain rfl := hm.ret
  have h5 : tmps'.getD 5 undef = .pointer (some ⟨Wg, 0, none⟩) := hm.pins (5, .pointer (some ⟨Wg, 0, none⟩)) (List.mem_singleton.2 rfl)
  rw [fx_at]
  rw [rEM9_eq]
  refine beh_silent rfl rfl (fun W₁ s => stepG_region) fun W₁ s => ?_
  rw [ops9_range]
  have hr1 : WRel (SF fsF) K R Try.prog.globals.size StM w W₁ := Cx.Rel.suf (C := mainCx Wg c n (recVal rs) (finJ Post Shun Wg) K StM (withLive wgl.tWg Wg IXX) (cf :: cs)) hr ht s
  have hi1 : withLive wgl.tWg Wg IXX R τ W₁ := hC.suf _ _ _ _ hi s
  let F : World → Prop := fun W' => WRel (SF fsF) K R Try.prog.globals.size StM w W' ∧ IXX R τ W'
  have kf : KeepF wgl.tWg Wg τ F := by
    refine ⟨fun W' W'' s hF => ⟨WRel.suf hF.1 ht (fun a b x => (hF.1.lt a b (.inr x)).2) s, hX.suf _ _ _ _ hF.2 s⟩, fun W' a v ha hF => ⟨?_, hX.cell _ _ _ _ _ hF.2 ha⟩⟩
    exact WRel.real hF.1 (fun x b hx => setCell_ne W' a v (by rw [ha]; exact hX.rel _ _ _ hF.2 x b hx)) (by rw [setCell_size]; exact Nat.le_refl _)
  show BehE Try.prog wgl.tWg Wg (pipe c n (recVal rs)) (finJ Post Shun Wg) true (.usr .wt) 0 τ (G ((Conc.base 35).at ⟨tmps', []⟩ [.inRegion ops9 [0]]) (cf :: cs)) W₁
  refine beh_silent rfl rfl (g' := G ((Conc.base wgl.wait).at ⟨#[.pointer (some ⟨Wg, 0, none⟩), undef, undef, undef, undef, undef, undef, undef, undef, undef, undef, undef, undef, undef, undef, undef, undef, undef, undef, undef, undef, undef, undef, undef, undef, undef, undef, undef, undef, undef, undef, undef, undef, undef, undef, undef, undef, undef, undef, undef, undef, undef, undef, undef, undef, undef, undef, undef, undef, undef, undef, undef, undef, undef, undef, undef, undef, undef, undef, undef, undef, undef, undef, undef, undef, undef, undef, undef, undef, undef, undef, undef, undef, undef, undef, undef, undef, undef, undef, undef, undef, undef, undef, undef], []⟩ [.code (body_wait wgl)]) ((Conc.base 35).at ⟨tmps', []⟩ [.inRegion ops9 [0]] :: cf :: cs)) (fun W₂ s2 => ?_) fun W₂ s2 => ?_
  · obtain ⟨x1, x2⟩ := exec_call (p := Try.prog) (o := oper9) rfl (ρ := (Go.Act.mk tmps' []).eval) (fun g => rfl) wgLib.f_wait rfl rfl W₂
    have hst := stepG_enter (main := true) (b := Conc.base 35) (a := ⟨tmps', []⟩) (rest := []) (cs := cf :: cs) (k := []) ops9_at rfl (by decide) x1
    rw [hst]
    unfold listed
    rw [x2, Conc.seen_none]
    simp only [List.map_toArray, List.map_cons, List.map_nil, Go.Act.eval]
    rw [h5, wait_ent]
  · have hF2 : F W₂ := kf.suf _ _ s2 ⟨hr1, hi1.1⟩
    have hJ : ∀ Wn, F Wn → ∀ d, finJ Post Shun Wg (G ((Conc.base 35).at (Go.Act.put ⟨tmps', []⟩ ((ops9[0]?).bind (·.dst)) (.tuple #[])) [.inRegion ops9 []]) (cf :: cs)) (Wn.at d) := fun Wn hFn => by
      show ∀ d, J Try.prog Post (shunG Shun Wg) Wn.heap.size (G ((Conc.base 35).at (Go.Act.put ⟨tmps', []⟩ ((ops9[0]?).bind (·.dst)) (.tuple #[])) [.inRegion ops9 []]) (cf :: cs)) (Wn.at d)
      refine J.sil rfl (fun w => stepG_region_end) ?_
      refine J.sil rfl (fun w => stepG_end) ?_
      refine J.sil rfl (g' := G (cf.finish (.tuple #[])) cs) (fun w => stepG_leave (fn := Try.f35) (v := .tuple #[]) rfl rfl Try.func35 (results_none rfl _ _ _) (Conc.events_results_none rfl _ _)) ?_
      intro d
      exact hcont R τ w (Wn.at d) (WRel.at hFn.1 d) ht (hX.at_ _ _ _ d hFn.2) hw
    exact waitW (A := pipe c n (recVal rs)) (b₀ := Conc.base 35) (a₀ := ⟨tmps', []⟩) (ops₀ := ops9) (i₀ := 0) (rest₀ := []) (k₀ := []) (cs := cf :: cs) (Fin := finJ Post Shun Wg) (l := PpL.wt) (τ := τ) (Wg := Wg) wgLib rfl kf (fun n g w h => fin_goes n g w h) (fun Wn hFn _ _ => hJ Wn hFn) W₂ ⟨hF2, s2.live hi1.2⟩
set_option maxHeartbeats 4000000 in
set_option maxRecDepth 100000 in
/-- Behind the go statement. -/
theorem each_main {Fin : Goroutine → World → Prop} {IC : Pr → Terr → World → Prop} {f : FuncId} {capt : Array Value} {gc gv : Nat} (hC : IOk (mainCx Wg c n (recVal rs) Fin K StM IC (cf :: cs))) (hK : K gc c) (hrs : rs.length = n) (E : EachI f capt rs I) (hf : gsF f = true)
    (hwait : ∀ tmps w, I n w → BO (mainCx Wg c n (recVal rs) Fin K StM IC (cf :: cs)) .wt ⟨35, tmps, [.code rEM9], false⟩ w) {ops4 : Array Oper} {u0 u2 u3 u6 u7 u8 u9 u10 u11 u12 u13 u14 u15 u16 u17 : Value} {w : World} (hw : I 0 w) (hv : w.heap[gv]? = some (.cells #[.chan (some gc)] 76 (0, 1))) :
    BO (mainCx Wg c n (recVal rs) Fin K StM IC (cf :: cs)) (.rv 0) ⟨35, #[u0, .func (.func f) #[] capt, u2, u3, .pointer (some ⟨gv, 0, none⟩), .nilFunc, u6, u7, u8, u9, u10, u11, u12, u13, u14, u15, u16, u17], [.inRegion ops4 [], .code (.seq (.seq rEM5 (.block 0 (.loop loopEM))) rEM9)], false⟩ w := by
  let C := mainCx Wg c n (recVal rs) Fin K StM IC (cf :: cs)
  have F : Fit3 C.P C.fs := fitF
  refine BO.regEnd hC ?_
  refine BO.seq hC ?_
  refine BO.seq hC ?_
  generalize hk0 : (Item.code (.block 0 (.loop loopEM)) :: [Item.code rEM9]) = K0
  simp only [rEM5, bodyEM, Try.f35, Option.getD_some]
  refine BO.regs hC [0] rfl ?_
  refine BO.op (C := C) F hC (o := _) rfl rfl (by kernel_rfl) (by intro s hs; cases hs; show (10 : Nat) ∉ ([5] : List Nat); decide) (fun T => ⟨.chan (some gc), Tt.tp w T 0, .inl ?_, ?_⟩)
  · exact exec_load1 (a := ⟨gv, 0, none⟩) rfl rfl (Try.isAgg76 _) (blk_cell (w := Tt.tp w T 0) hv 0)
  refine BO.regEnd hC ?_
  subst hk0
  refine BO.block hC ?_
  refine BO.loop hC ?_
  exact each_main_loop C rfl rfl rfl rfl rfl hC hK hrs E hf hwait n 0 (by omega) _ _ _ _ _ _ _ _ _ _ _ _ _ _ _ (E.tape _ _ _ _ hw)
end
end Go.Proofs.Ytjcpjijihajopaa
