/-
  eachRecord in goroutine 0: it ranges over what comes.
-/
import Derived.Test.YtjcpjijihajopaaEachC
set_option linter.unusedSectionVars false
set_option linter.unusedSimpArgs false
set_option linter.unusedVariables false
namespace Go.Proofs.Ytjcpjijihajopaa
open Go.RowKit Go.Mt Go.Conc Go.Tt Go.Conc.Lib Go.ConcR.Gen
set_option linter.unusedVariables false
noncomputable def bodyEM : Code := (Try.f35.body).getD .skip
noncomputable def rEM0 : Code := match bodyEM with | .seq a _ => a | _ => .skip
noncomputable def rEM1 : Code := match bodyEM with | .seq _ (.seq a _) => a | _ => .skip
noncomputable def rEM2 : Code := match bodyEM with | .seq _ (.seq _ (.seq a _)) => a | _ => .skip
noncomputable def rEM3 : Code := match bodyEM with | .seq _ (.seq _ (.seq _ (.seq a _))) => a | _ => .skip
noncomputable def rEM4 : Code := match bodyEM with | .seq _ (.seq _ (.seq _ (.seq _ (.seq a _)))) => a | _ => .skip
noncomputable def rEM5 : Code := match bodyEM with | .seq _ (.seq _ (.seq _ (.seq _ (.seq _ (.seq (.seq a _) _))))) => a | _ => .skip
noncomputable def rEM9 : Code := match bodyEM with | .seq _ (.seq _ (.seq _ (.seq _ (.seq _ (.seq _ a))))) => a | _ => .skip
noncomputable def loopEM : Code := match bodyEM with | .seq _ (.seq _ (.seq _ (.seq _ (.seq _ (.seq (.seq _ (.block _ (.loop a))) _))))) => a | _ => .skip
noncomputable def rEM6 : Code := match loopEM with | .seq a _ => a | _ => .skip
noncomputable def rEM7 : Code := match loopEM with | .seq _ (.seq _ (.block _ (.seq a _))) => a | _ => .skip
noncomputable def rEM8 : Code := match loopEM with | .seq _ (.seq _ (.block _ (.seq _ a))) => a | _ => .skip
theorem loopEM_eq : loopEM = .seq rEM6 (.seq (.cond (.tmp 12) .skip (.exit 0)) (.block 1 (.seq rEM7 rEM8))) := rfl
theorem bodyEM_eq : bodyEM = .seq rEM0 (.seq rEM1 (.seq rEM2 (.seq rEM3 (.seq rEM4 (.seq (.seq rEM5 (.block 0 (.loop loopEM))) rEM9))))) := rfl
/-- What is held of the ghost from round to round. -/
structure EachI (f : FuncId) (cap : Array Value) (rs : List RecD) (I : Nat → World → Prop) : Prop where
  tape : ∀ k w T e, I k w → I k (Tt.tp w T e)
  al : ∀ k w cs T, I k w → I k (w.alloc (.cells cs T))
  step : ∀ k w d, rs[k]? = some d → I k w → Calls Try.prog f (#[d.val] ++ cap) w (fun e w' => ∃ v, e = .returned v ∧ I (k + 1) w')
section
variable {Q : Exit → Go.Act → World → Prop} {u0 u1 u2 u3 u4 u5 u6 u7 u8 u9 u10 u11 u12 u13 u14 u15 u16 u17 : Value} {w : World}
set_option maxHeartbeats 1000000 in
theorem wpEM7 {d : RecD} (h : Q .normal ⟨#[u0, u1, u2, u3, u4, u5, .pointer (some ⟨w.heap.size, 0, none⟩), u7, u8, u9, u10, .tuple #[d.val, .bool true], u12, d.val, u14, u15, u16, u17], []⟩ (w.alloc (.cells #[.int .i64 d.c, .int .i64 d.l, .int .i64 d.o, .int .i64 d.f, .int .i64 d.h, .int .i64 d.t, .string d.e] 50))) :
    Code.wp Try.prog rEM7 Q ⟨#[u0, u1, u2, u3, u4, u5, u6, u7, u8, u9, u10, .tuple #[d.val, .bool true], u12, u13, u14, u15, u16, u17], []⟩ w := by
  unfold RecD.val at h ⊢
  simp only [rEM7, loopEM, bodyEM, Try.f35, Option.getD_some]
  go_wp2
  exact h
end
section
variable {c n cap : Nat} {rs : List RecD} {gc gv : Nat} {f : FuncId} {capt : Array Value} {I : Nat → World → Prop}
theorem recVal_at {rs : List RecD} {k : Nat} {d : RecD} (h : rs[k]? = some d) : recVal rs k = d.val := by unfold recVal; rw [h]; rfl
theorem recD_vr (d : RecD) {S : FuncId → Prop} {K R : Pr} : VR S K R d.val d.val := by
  unfold RecD.val
  exact .agg' (((((((ArR.empty.push (.int _ _)).push (.int _ _)).push (.int _ _)).push (.int _ _)).push (.int _ _)).push (.int _ _)).push (.string _))
set_option maxHeartbeats 4000000 in
set_option maxRecDepth 100000 in
theorem each_main_loop (C : Cx PpL) (hp : C.p = Try.prog) (hgs : C.gs = gsF) (hfs : C.fs = fsF) (hA : C.A = pipe c n (recVal rs)) (hS : C.S = [5]) (hI : IOk C) (hK : C.K gc c) (hrs : rs.length = n) (E : EachI f capt rs I) (hf : gsF f = true)
    (hwait : ∀ tmps w, I n w → BO C .wt ⟨35, tmps, [.code rEM9], false⟩ w) :
    ∀ (m k : Nat), k + m = n → ∀ (w : World) (u0 u2 u3 u6 u7 u8 u9 u11 u12 u13 u14 u15 u16 u17 : Value), I k w →
      BO C (.rv k) ⟨35, #[u0, .func (.func f) #[] capt, u2, u3, .pointer (some ⟨gv, 0, none⟩), .nilFunc, u6, u7, u8, u9, .chan (some gc), u11, u12, u13, u14, u15, u16, u17], [.code loopEM, .inLoop loopEM, .inBlock 0, .code rEM9], false⟩ w := by
  have F : Fit3 C.P C.fs := by unfold Cx.P; rw [hp, hgs, hfs]; exact fitF
  have fok : FnOk C.p 35 := ⟨_, by rw [hp]; exact Try.func35, .inl rfl⟩
  have hz0 : (Try.prog.info? 50).map (fun i => i.zero) = some (some (RecD.val ⟨0, 0, 0, 0, 0, 0, ⟨#[]⟩⟩)) := by kernel_rfl
  obtain ⟨ie, hie, hz⟩ := Option.map_eq_some_iff.1 hz0
  have hie' : C.p.info? 50 = some ie := by rw [hp]; exact hie
  have hct : C.p.underlying 76 = some (.chan .both 50) := by rw [hp]; exact Try.underlying76
  have ext : ∀ (a b : Value) (W : World), (Instr.extract (.tuple #[a, b]) 1).run Try.prog W = .ok b W := fun a b W => by simp [Instr.extract, go_sem]
  intro m
  induction m with
  | zero =>
    intro k hk w u0 u2 u3 u6 u7 u8 u9 u11 u12 u13 u14 u15 u16 u17 hw
    obtain rfl : k = n := by omega
    rw [show Item.code loopEM = Item.code (.seq rEM6 (.seq (.cond (.tmp 12) .skip (.exit 0)) (.block 1 (.seq rEM7 rEM8)))) from congrArg _ loopEM_eq]
    refine BO.seq hI ?_
    generalize hk0 : (Item.code (.seq (.cond (.tmp 12) .skip (.exit 0)) (.block 1 (.seq rEM7 rEM8))) :: Item.inLoop loopEM :: Item.inBlock 0 :: [Item.code rEM9]) = K0
    simp only [rEM6, loopEM, bodyEM, Try.f35, Option.getD_some]
    refine BO.regs hI [0, 1] rfl ?_
    have hact : C.A.act (.rv k) = .recv c (fun v => k < k ∧ v = recVal rs k) (fun _ => .rv (k + 1)) .wt := by rw [hA]; rfl
    refine BO.recv hI (o := _) (g := gc) rfl rfl rfl hct hie' hz (fun R => recD_vr _) rfl rfl hK (by intro s hs; rw [hS]; cases hs; decide) hact (fun v hv => absurd hv.1 (Nat.lt_irrefl _)) (fun _ => ?_)
    refine BO.op F hI (o := _) rfl rfl (by rw [hp, hfs, hgs]; kernel_rfl) (by intro s hs; rw [hS]; cases hs; decide) (fun T => ⟨.bool false, Tt.tp w T 0, .inl ?_, ?_⟩)
    · rw [hp]
      have := ext (RecD.val ⟨0, 0, 0, 0, 0, 0, ⟨#[]⟩⟩) (.bool false) (Tt.tp w T 0)
      show Sem.run _ (Sem.bind (Instr.extract (.tuple #[RecD.val ⟨0, 0, 0, 0, 0, 0, ⟨#[]⟩⟩, .bool false]) 1) (fun v => Sem.pure (Next.value v))) _ = _
      rw [Sem.run_bind', this]; rfl
    refine BO.regEnd hI ?_
    subst hk0
    refine BO.seq hI ?_
    refine BO.cond hI (t := false) rfl rfl ?_
    exact BO.exit hI (k' := [.code rEM9]) rfl (hwait _ _ (E.tape _ _ _ _ hw))
  | succ m ih =>
    intro k hk w u0 u2 u3 u6 u7 u8 u9 u11 u12 u13 u14 u15 u16 u17 hw
    have hlt : k < n := by omega
    obtain ⟨d, hd⟩ : ∃ d, rs[k]? = some d := ⟨rs[k], List.getElem?_eq_getElem (by omega)⟩
    rw [show Item.code loopEM = Item.code (.seq rEM6 (.seq (.cond (.tmp 12) .skip (.exit 0)) (.block 1 (.seq rEM7 rEM8)))) from congrArg _ loopEM_eq]
    refine BO.seq hI ?_
    generalize hk0 : (Item.code (.seq (.cond (.tmp 12) .skip (.exit 0)) (.block 1 (.seq rEM7 rEM8))) :: Item.inLoop loopEM :: Item.inBlock 0 :: [Item.code rEM9]) = K0
    simp only [rEM6, loopEM, bodyEM, Try.f35, Option.getD_some]
    refine BO.regs hI [0, 1] rfl ?_
    have hact : C.A.act (.rv k) = .recv c (fun v => k < n ∧ v = recVal rs k) (fun _ => .rv (k + 1)) .wt := by rw [hA]; rfl
    refine BO.recv hI (o := _) (g := gc) rfl rfl rfl hct hie' hz (fun R => recD_vr _) rfl rfl hK (by intro s hs; rw [hS]; cases hs; decide) hact (fun v hv => ⟨d.val, fun R => ?_, ?_⟩) (fun hcl => ?_)
    · rw [hv.2, recVal_at hd]; exact recD_vr d
    rotate_left
    · exfalso
      rw [hA] at hcl
      have hcl' : PpL.rv k = PpL.rv n := hcl
      cases hcl'
      omega
    refine BO.op F hI (o := _) rfl rfl (by rw [hp, hfs, hgs]; kernel_rfl) (by intro s hs; rw [hS]; cases hs; decide) (fun T => ⟨.bool true, Tt.tp w T 0, .inl ?_, ?_⟩)
    · rw [hp]
      have := ext d.val (.bool true) (Tt.tp w T 0)
      show Sem.run _ (Sem.bind (Instr.extract (.tuple #[d.val, .bool true]) 1) (fun v => Sem.pure (Next.value v))) _ = _
      rw [Sem.run_bind', this]; rfl
    replace hw := E.tape _ _ T 0 hw
    generalize Tt.tp w T 0 = w1 at hw ⊢
    refine BO.regEnd hI ?_
    subst hk0
    refine BO.seq hI ?_
    refine BO.cond hI (t := true) rfl rfl ?_
    refine BO.skip hI ?_
    refine BO.block hI ?_
    refine BO.seq hI ?_
    refine BO.piece F hI (by rw [hp, hfs, hgs]; kernel_rfl) fok (by rw [hS]; kernel_rfl) (fun T => ?_)
    rw [hp]
    replace hw := E.tape _ _ T 0 hw
    generalize Tt.tp w1 T 0 = w2 at hw ⊢
    refine wpEM7 ⟨rfl, ?_⟩
    generalize hcs : (#[.int .i64 d.c, .int .i64 d.l, .int .i64 d.o, .int .i64 d.f, .int .i64 d.h, .int .i64 d.t, .string d.e] : Array Value) = cs
    have hr : (w2.alloc (.cells cs 50)).heap[w2.heap.size]? = some (.cells cs 50) := heap_alloc_new _ _
    replace hw := E.al _ _ cs 50 hw
    generalize w2.heap.size = N at hr ⊢
    generalize w2.alloc (.cells cs 50) = w3 at hw hr ⊢
    generalize hk0 : (Item.inBlock 1 :: Item.inLoop loopEM :: Item.inBlock 0 :: [Item.code rEM9]) = K0
    simp only [rEM8, loopEM, bodyEM, Try.f35, Option.getD_some]
    refine BO.regs hI [0, 1, 2] rfl ?_
    refine BO.op F hI (o := _) rfl rfl (by rw [hp, hfs, hgs]; kernel_rfl) (by intro s hs; rw [hS]; cases hs; decide) (fun T => ⟨.func (.func f) #[] capt, Tt.tp w3 T 0, .inl rfl, ?_⟩)
    replace hw := E.tape _ _ T 0 hw
    have hr' : (Tt.tp w3 T 0).heap[N]? = some (.cells cs 50) := hr
    clear hr
    generalize Tt.tp w3 T 0 = w4 at hw hr' ⊢
    refine BO.op F hI (o := _) rfl rfl (by rw [hp, hfs, hgs]; kernel_rfl) (by intro s hs; rw [hS]; cases hs; decide) (fun T => ⟨.agg cs, Tt.tp w4 T 0, .inl ?_, ?_⟩)
    · rw [hp]
      exact exec_loadRow (g := N) (T := 50) (fr := (0, 0)) rfl rfl hr' Try.underlying50 rfl (by rw [← hcs]; kernel_rfl)
    replace hw := E.tape _ _ T 0 hw
    generalize Tt.tp w4 T 0 = w5 at hw ⊢
    refine BO.callL F hI (o := _) (x := .tmp 14) (f := f) (first := #[]) (cap := capt) rfl rfl rfl (.dyn rfl rfl) (by simp [okX]) (by rw [hgs]; exact hf) (by intro s hs; rw [hS]; cases hs; decide) (Q := fun _ w' => I (k + 1) w') (fun _ _ _ _ h => E.tape _ _ _ _ h) (fun T => ?_) (fun v w' hQ => ?_)
    · rw [hp]
      have := E.step k (Tt.tp w5 T 0) d hd (E.tape _ _ _ _ hw)
      have e : d.val = .agg cs := by rw [← hcs]; rfl
      rw [e] at this
      simpa [Go.Act.put, Go.Act.eval] using this
    refine BO.regEnd hI ?_
    subst hk0
    refine BO.inBlock hI ?_
    refine BO.inLoop hI ?_
    exact ih (k + 1) (by omega) _ _ _ _ _ _ _ _ _ _ _ _ _ _ _ hQ
end
end Go.Proofs.Ytjcpjijihajopaa
