/-
  Part 9 of what stands behind the last text.
-/
import Derived.Test.YtjcpjijihajopaaRows
import Derived.KernelRfl
import Derived.Maps.OwnOps
import Derived.Maps.Views
import Derived.Test.YtjcpjijihajopaaFWaitPq8
set_option linter.unusedSectionVars false
set_option linter.unusedSimpArgs false
set_option linter.unusedVariables false
namespace Go.Proofs.Ytjcpjijihajopaa
open Go.RowKit Go.Mt Go.Conc Go.Tt Go.Conc.Lib Go.ConcR.Gen
abbrev wgl : WgLink := { add := 54, done := 56, wait := 57, relMerge := 63, disable := 64, enable := 65, inBubble := 66, associate := 67, fatal := 68, uOr := 69, uAdd := 70, raceRead := 71, uLoad := 72, uStore := 73, disassociate := 74, semrelease := 75, acquire := 76, isAssociated := 77, uCas := 78, raceWrite := 79, semacquire := 80, orU64 := 86, addU64 := 87, loadU64 := 88, storeU64 := 89, casU64 := 90, tWgP := 99, tUP := 101, tAssoc := 103, tWg := 86, tAU := 83, tU64 := 81, tUint := 107, tU32 := 84, tPU32 := 108, tPAU := 125, tPU64 := 127, tNoCopy := 78, tANoCopy := 79, tAlign64 := 80 }
theorem wgLib : WgLib Try.prog wgl :=
  ⟨Try.func54, Try.func56, Try.func57, Try.func63, Try.func64, Try.func65, Try.func66, Try.func67, Try.func68, Try.func69, Try.func70, Try.func71, Try.func72, Try.func73, Try.func74, Try.func75, Try.func76, Try.func77, Try.func78, Try.func79, Try.func80, Try.func86, Try.func87, Try.func88, Try.func89, Try.func90, Try.underlying99, Try.runUnderlying99, Try.sizeOf99, Try.isAgg99, Try.zeroValue99, Try.underlying101, Try.runUnderlying101, Try.sizeOf101, Try.isAgg101, Try.zeroValue101, Try.underlying103, Try.runUnderlying103, Try.sizeOf103, Try.isAgg103, Try.zeroValue103, Try.underlying86, Try.runUnderlying86, Try.sizeOf86, Try.isAgg86, Try.zeroValue86, Try.underlying83, Try.runUnderlying83, Try.sizeOf83, Try.isAgg83, Try.zeroValue83, Try.underlying81, Try.runUnderlying81, Try.sizeOf81, Try.isAgg81, Try.zeroValue81, Try.underlying107, Try.runUnderlying107, Try.sizeOf107, Try.isAgg107, Try.zeroValue107, Try.underlying84, Try.runUnderlying84, Try.sizeOf84, Try.isAgg84, Try.zeroValue84, Try.underlying108, Try.runUnderlying108, Try.sizeOf108, Try.isAgg108, Try.zeroValue108, Try.underlying125, Try.runUnderlying125, Try.sizeOf125, Try.isAgg125, Try.zeroValue125, Try.underlying127, Try.runUnderlying127, Try.sizeOf127, Try.isAgg127, Try.zeroValue127, Try.underlying0, Try.runUnderlying0, Try.sizeOf0, Try.isAgg0, Try.zeroValue0, Try.underlying3, Try.runUnderlying3, Try.sizeOf3, Try.isAgg3, Try.zeroValue3, Try.underlying4, Try.runUnderlying4, Try.sizeOf4, Try.isAgg4, Try.zeroValue4, Try.underlying9, Try.runUnderlying9, Try.sizeOf9, Try.isAgg9, Try.zeroValue9, Try.underlying20, Try.runUnderlying20, Try.sizeOf20, Try.isAgg20, Try.zeroValue20, Try.underlying21, Try.runUnderlying21, Try.sizeOf21, Try.isAgg21, Try.zeroValue21, (by kernel_rfl), (by kernel_rfl)⟩
instance : Go.ConcR.Payload := ⟨3⟩
end Go.Proofs.Ytjcpjijihajopaa
namespace Go.Proofs.Ytjcpjijihajopaa
open Go.Mt Go.Tt
def glL : List Nat := [25, 9, 10, 11, 13, 14, 16, 17, 19, 21, 22, 23, 24, 26, 27, 28, 29, 30, 31, 32, 33, 34, 36, 37, 38, 39, 40, 41, 42, 43, 44, 45, 46, 47, 48, 49, 50, 51, 52, 53, 58, 59, 60, 61, 62, 81, 82, 83, 84, 85, 91, 92, 93, 94, 95, 96, 97, 98, 99, 100, 101, 102, 103, 104, 105, 106, 107]
def alL : List Nat := [7, 25, 3, 4, 5, 6, 9, 10, 11, 12, 13, 14, 15, 16, 17, 18, 19, 20, 21, 22, 23, 24, 26, 27, 28, 29, 30, 31, 32, 33, 34, 35, 36, 37, 38, 39, 40, 41, 42, 43, 44, 45, 46, 47, 48, 49, 50, 51, 52, 53, 58, 59, 60, 61, 62, 81, 82, 83, 84, 85, 91, 92, 93, 94, 95, 96, 97, 98, 99, 100, 101, 102, 103, 104, 105, 106, 107]
def flL : List Nat := [36, 39, 46]
def olL : List Nat := [35]
abbrev gsF : FuncId → Bool := inL glL
abbrev fsF : FuncId → Bool := inL flL
theorem zeros_all : zerosOk Try.prog = true := by kernel_rfl
theorem fit_gl : glL.all (fnFit Try.prog (inL flL) (inL glL)) = true := by kernel_rfl
theorem lvF : Lv Try.prog (inL olL) (inL alL) gsF fsF :=
  lv_of zeros_all fit_gl (by kernel_rfl) (by kernel_rfl) (by kernel_rfl)
theorem fitF : Fit3 (PS Try.prog gsF) fsF := fit3_of zeros_all fit_gl
end Go.Proofs.Ytjcpjijihajopaa
namespace Go.Proofs.Ytjcpjijihajopaa
open Go.RowKit Go.Mt Go.Conc Go.Tt Go.Conc.Lib Go.ConcR.Gen
set_option linter.unusedVariables false
noncomputable def bodyEC : Go.Code := (Try.f55.body).getD .skip
noncomputable def loopEC : Go.Code := match bodyEC with | .seq _ (.seq _ (.seq _ (.block _ (.loop c)))) => c | _ => .skip
noncomputable def rEC0 : Go.Code := match bodyEC with | .seq a _ => a | _ => .skip
noncomputable def rEC1 : Go.Code := match bodyEC with | .seq _ (.seq a _) => a | _ => .skip
noncomputable def rEC2 : Go.Code := match bodyEC with | .seq _ (.seq _ (.seq a _)) => a | _ => .skip
noncomputable def rEC3 : Go.Code := match loopEC with | .seq a _ => a | _ => .skip
noncomputable def rEC4 : Go.Code := match loopEC with | .seq _ (.seq _ (.seq (.block _ (.seq a _)) _)) => a | _ => .skip
noncomputable def rEC5 : Go.Code := match loopEC with | .seq _ (.seq _ (.seq (.block _ (.seq _ a)) _)) => a | _ => .skip
noncomputable def rEC6 : Go.Code := match loopEC with | .seq _ (.seq _ (.seq _ a)) => a | _ => .skip
theorem loopEC_eq : loopEC = .seq rEC3 (.seq (.cond (.tmp 9) .skip (.exit 0)) (.seq (.block 1 (.seq rEC4 rEC5)) rEC6)) := rfl
theorem bodyEC_eq : bodyEC = .seq rEC0 (.seq rEC1 (.seq rEC2 (.block 0 (.loop loopEC)))) := rfl
def recVal (rs : List RecD) (k : Nat) : Value := ((rs[k]?).map RecD.val).getD undef
noncomputable def childCx (Wg c n : Nat) (val : Nat → Value) (Fin : Goroutine → World → Prop) (K : Pr) (St : Nat → Prop) : Cx PpL :=
  { p := Try.prog, gs := gsF, fs := fsF, ty := wgl.tWg, Wg := Wg, A := pipe c n val, Fin := Fin, main := false, base := [botF Try.prog], ds := ⟨[], .deferred, by simp⟩, K := K, St := St, I := IC wgl.tWg Wg c, pin := [(0, .pointer (some ⟨Wg, 0, none⟩))] }
structure ChW (gc gv gr : Nat) (A : Option Addr) (n cap : Nat) (rs : List RecD) (w : World) : Prop where
  v : w.heap[gv]? = some (.cells #[.chan (some gc)] 76 (0, 1))
  r : w.heap[gr]? = some (.cells #[.slice A n cap] 25 (0, 1))
  s : Slc w 0 w.heap.size 7 A n cap (recs rs)
theorem ChW.keep {gc gv gr : Nat} {A : Option Addr} {n cap : Nat} {rs : List RecD} {w w' : World} (h : ChW gc gv gr A n cap rs w) (hb : Below w.heap.size w w') : ChW gc gv gr A n cap rs w' :=
  ⟨(blk_below hb h.v).1, (blk_below hb h.r).1, (h.s.below hb).wide (Nat.le_refl _) hb.size⟩
theorem recVal_vr {S : FuncId → Prop} {K R : Pr} {d : RecD} {v' : Value} (h : VR S K R d.val v') : v' = d.val := by
  unfold RecD.val at h ⊢
  cases h with
  | agg e h =>
    rename_i xs'
    obtain ⟨l⟩ := xs'
    have h0 := h 0
    have h1 := h 1
    have h2 := h 2
    have h3 := h 3
    have h4 := h 4
    have h5 := h 5
    have h6 := h 6
    simp only [List.size_toArray, List.length_cons, List.length_nil] at e
    match l, e with
    | [a0, a1, a2, a3, a4, a5, a6], _ =>
      simp only [List.getElem?_toArray, List.getElem?_cons_zero, List.getElem?_cons_succ, Option.some.injEq] at h0 h1 h2 h3 h4 h5 h6
      cases h0 _ _ rfl rfl; cases h1 _ _ rfl rfl; cases h2 _ _ rfl rfl; cases h3 _ _ rfl rfl; cases h4 _ _ rfl rfl; cases h5 _ _ rfl rfl; cases h6 _ _ rfl rfl
      rfl
section
variable {Q : Exit → Go.Act → World → Prop} {u0 u1 u2 u3 u4 u5 u6 u7 u8 u9 u10 u11 u12 u13 u14 : Value} {w : World}
set_option maxHeartbeats 1000000 in
theorem wpEC3 {k n : Nat} (hn : n ≤ 1048576) (hk : k ≤ n) (h : Q .normal ⟨#[u0, u1, u2, u3, u4, u5, u6, .int .i64 n, .int .i64 k, .bool (decide (k < n)), u10, u11, u12, u13, u14], []⟩ w) :
    Code.wp Try.prog rEC3 Q ⟨#[u0, u1, u2, u3, u4, u5, u6, .int .i64 n, .int .i64 k, u9, u10, u11, u12, u13, u14], []⟩ w := by
  simp only [rEC3, loopEC, bodyEC, Try.f55, Option.getD_some]
  go_wp2
  exact h
set_option maxHeartbeats 1000000 in
theorem wpEC6 {k n : Nat} (hn : n ≤ 1048576) (hk : k < n) (h : Q .normal ⟨#[u0, u1, u2, u3, u4, u5, u6, u7, .int .i64 (k + 1 : Nat), u9, u10, u11, u12, u13, .int .i64 (k + 1 : Nat)], []⟩ w) :
    Code.wp Try.prog rEC6 Q ⟨#[u0, u1, u2, u3, u4, u5, u6, u7, .int .i64 k, u9, u10, u11, u12, u13, u14], []⟩ w := by
  simp only [rEC6, loopEC, bodyEC, Try.f55, Option.getD_some]
  push_cast at h
  go_wp2
  exact h
set_option maxHeartbeats 1000000 in
theorem wpEC2 {gr n cap : Nat} {A : Option Addr} (hn : n ≤ 1048576) (hr : w.heap[gr]? = some (.cells #[.slice A n cap] 25 (0, 1))) (h : Q .normal ⟨#[u0, u1, .pointer (some ⟨gr, 0, none⟩), u3, u4, u5, .slice A n cap, .int .i64 n, .int .i64 0, u9, u10, u11, u12, u13, u14], []⟩ w) :
    Code.wp Try.prog rEC2 Q ⟨#[u0, u1, .pointer (some ⟨gr, 0, none⟩), u3, u4, u5, u6, u7, u8, u9, u10, u11, u12, u13, u14], []⟩ w := by
  have h0 := blk_cell hr 0
  simp only [rEC2, bodyEC, Try.f55, Option.getD_some]
  clear hr
  go_wp2
  exact h
set_option maxHeartbeats 1000000 in
theorem wpEC4 {b off k n cap : Nat} {d : RecD} (hn : n ≤ 1048576) (hc : n ≤ cap) (hcm : cap ≤ maxLen) (hk : k < n) (hd : RecAt w b (off + k * 7) d)
    (h : Q .normal ⟨#[u0, u1, u2, u3, .pointer (some ⟨w.heap.size, 0, none⟩), u5, .slice (some ⟨b, off, none⟩) n cap, .int .i64 n, .int .i64 k, u9, .pointer (some ⟨b, off + k * 7, none⟩), d.val, u12, u13, u14], []⟩ (w.alloc (.cells #[.int .i64 d.c, .int .i64 d.l, .int .i64 d.o, .int .i64 d.f, .int .i64 d.h, .int .i64 d.t, .string d.e] 50))) :
    Code.wp Try.prog rEC4 Q ⟨#[u0, u1, u2, u3, u4, u5, .slice (some ⟨b, off, none⟩) n cap, .int .i64 n, .int .i64 k, u9, u10, u11, u12, u13, u14], []⟩ w := by
  obtain ⟨h0, h1, h2, h3, h4, h5, h6⟩ := hd
  simp only [rEC4, loopEC, bodyEC, Try.f55, Option.getD_some]
  go_wp2
  exact h
end
theorem slc_tp {w : World} {lo hi s n c : Nat} {A : Option Addr} {xs : List Value} (h : Slc w lo hi s A n c xs) (T : Tape) (e : Nat) : Slc (Tt.tp w T e) lo hi s A n c xs := ⟨h.len, h.le, h.cap, h.at_⟩
theorem ChW.tp {gc gv gr : Nat} {A : Option Addr} {n cap : Nat} {rs : List RecD} {w : World} (h : ChW gc gv gr A n cap rs w) (T : Tape) (e : Nat) : ChW gc gv gr A n cap rs (Tt.tp w T e) := ⟨h.v, h.r, slc_tp h.s T e⟩
section
variable {Wg c n cap : Nat} {rs : List RecD} {A : Option Addr} {gc gv gr : Nat}
set_option maxHeartbeats 4000000 in
set_option maxRecDepth 100000 in
theorem each_child_loop (C : Cx PpL) (hp : C.p = Try.prog) (hgs : C.gs = gsF) (hfs : C.fs = fsF) (hA : C.A = pipe c n (recVal rs)) (hS : C.S = [0]) (hI : IOk C) (hK : C.K gc c) (hrs : rs.length = n) (hn : n ≤ 1048576) (hdone : ∀ tmps w, BO C (.sd n) ⟨55, tmps, [], true⟩ w) :
    ∀ (m k : Nat), k + m = n → ∀ (w : World) (u3 u4 u5 u9 u10 u11 u12 u13 u14 : Value), ChW gc gv gr A n cap rs w →
      BO C (.sd k) ⟨55, #[.nilFunc, .pointer (some ⟨gv, 0, none⟩), .pointer (some ⟨gr, 0, none⟩), u3, u4, u5, .slice A n cap, .int .i64 n, .int .i64 k, u9, u10, u11, u12, u13, u14], [.code loopEC, .inLoop loopEC, .inBlock 0], false⟩ w := by
  have F : Fit3 C.P C.fs := by unfold Cx.P; rw [hp, hgs, hfs]; exact fitF
  have fok : FnOk C.p 55 := ⟨_, by rw [hp]; exact Try.func55, .inl rfl⟩
  intro m
  induction m with
  | zero =>
    intro k hk w u3 u4 u5 u9 u10 u11 u12 u13 u14 hw
    obtain rfl : k = n := by omega
    rw [show Item.code loopEC = Item.code (.seq rEC3 (.seq (.cond (.tmp 9) .skip (.exit 0)) (.seq (.block 1 (.seq rEC4 rEC5)) rEC6))) from congrArg _ loopEC_eq]
    refine BO.seq hI ?_
    refine BO.piece F hI (by rw [hp, hfs, hgs]; kernel_rfl) fok (by rw [hS]; kernel_rfl) (fun T => ?_)
    rw [hp]
    refine wpEC3 hn (Nat.le_refl _) ⟨rfl, ?_⟩
    refine BO.seq hI ?_
    refine BO.cond hI (t := false) rfl (by simp [Go.Act.eval]) ?_
    exact BO.exit hI (k' := []) rfl (BO.fall hI (hdone _ _))
  | succ m ih =>
    intro k hk w u3 u4 u5 u9 u10 u11 u12 u13 u14 hw
    have hlt : k < n := by omega
    rw [show Item.code loopEC = Item.code (.seq rEC3 (.seq (.cond (.tmp 9) .skip (.exit 0)) (.seq (.block 1 (.seq rEC4 rEC5)) rEC6))) from congrArg _ loopEC_eq]
    refine BO.seq hI ?_
    refine BO.piece F hI (by rw [hp, hfs, hgs]; kernel_rfl) fok (by rw [hS]; kernel_rfl) (fun T => ?_)
    rw [hp]
    refine wpEC3 hn (by omega) ⟨rfl, ?_⟩
    replace hw := hw.tp T 0
    generalize Tt.tp w T 0 = w1 at hw ⊢
    refine BO.seq hI ?_
    refine BO.cond hI (t := true) rfl (by simp [Go.Act.eval, hlt]) ?_
    refine BO.skip hI ?_
    refine BO.seq hI ?_
    refine BO.block hI ?_
    refine BO.seq hI ?_
    obtain ⟨b, off, d, rfl, _, _, hb3, hdk, hd⟩ := hw.s.recAt hlt
    refine BO.piece F hI (by rw [hp, hfs, hgs]; kernel_rfl) fok (by rw [hS]; kernel_rfl) (fun T => ?_)
    rw [hp]
    replace hw := hw.tp T 0
    have hd' : RecAt (Tt.tp w1 T 0) b (off + k * 7) d := ⟨hd.c0, hd.c1, hd.c2, hd.c3, hd.c4, hd.c5, hd.c6⟩
    clear hd
    generalize Tt.tp w1 T 0 = w2 at hw hd' ⊢
    refine wpEC4 hn hw.s.le hw.s.cap hlt hd' ⟨rfl, ?_⟩
    generalize hcs : (#[.int .i64 d.c, .int .i64 d.l, .int .i64 d.o, .int .i64 d.f, .int .i64 d.h, .int .i64 d.t, .string d.e] : Array Value) = cs
    have hw3 := hw.keep (w' := w2.alloc (.cells cs 50)) (below_al (Below.refl _ _) _)
    have hr : (w2.alloc (.cells cs 50)).heap[w2.heap.size]? = some (.cells cs 50) := heap_alloc_new _ _
    generalize w2.heap.size = N at hr ⊢
    generalize w2.alloc (.cells cs 50) = w3 at hw3 hr ⊢
    clear hw hd'
    generalize hk0 : (Item.inBlock 1 :: Item.code rEC6 :: Item.inLoop loopEC :: [Item.inBlock 0]) = K0
    simp only [rEC5, loopEC, bodyEC, Try.f55, Option.getD_some]
    refine BO.regs hI [0, 1, 2] rfl ?_
    refine BO.op F hI (o := _) rfl rfl (by rw [hp, hfs, hgs]; kernel_rfl) (by intro s hs; rw [hS]; cases hs; decide) (fun T => ⟨.chan (some gc), Tt.tp w3 T 0, .inl ?_, ?_⟩)
    · rw [hp]
      exact exec_load1 (a := ⟨gv, 0, none⟩) rfl rfl (Try.isAgg76 _) (blk_cell (hw3.tp T 0).v 0)
    replace hw3 := hw3.tp T 0
    have hr' : (Tt.tp w3 T 0).heap[N]? = some (.cells cs 50) := hr
    clear hr
    generalize Tt.tp w3 T 0 = w4 at hw3 hr' ⊢
    refine BO.op F hI (o := _) rfl rfl (by rw [hp, hfs, hgs]; kernel_rfl) (by intro s hs; rw [hS]; cases hs; decide) (fun T => ⟨.agg cs, Tt.tp w4 T 0, .inl ?_, ?_⟩)
    · rw [hp]
      exact exec_loadRow (g := N) (T := 50) (fr := (0, 0)) rfl rfl hr' Try.underlying50 rfl (by rw [← hcs]; kernel_rfl)
    replace hw3 := hw3.tp T 0
    generalize Tt.tp w4 T 0 = w5 at hw3 ⊢
    have hact : C.A.act (.sd k) = .send c (fun v => v = recVal rs k) (fun _ => []) (fun _ => .sd (k + 1)) := by rw [hA]; show pipeAct c n (recVal rs) (.sd k) = _; simp only [pipeAct, hlt, if_true]
    refine BO.send hI (o := _) (g := gc) (l' := .sd (k + 1)) rfl rfl rfl rfl rfl hK rfl (by intro s hs; cases hs) hact (fun R v' hv => ⟨?_, rfl, rfl⟩) ?_
    · have hv2 : VR (SF C.fs) C.K R d.val v' := by rw [show d.val = .agg cs by rw [← hcs]; rfl]; exact hv
      rw [recVal_vr hv2]
      unfold recVal; rw [hdk]; rfl
    refine BO.regEnd hI ?_
    subst hk0
    refine BO.inBlock hI ?_
    refine BO.piece F hI (by rw [hp, hfs, hgs]; kernel_rfl) fok (by rw [hS]; kernel_rfl) (fun T => ?_)
    rw [hp]
    refine wpEC6 hn hlt ⟨rfl, ?_⟩
    refine BO.inLoop hI ?_
    exact ih (k + 1) (by omega) _ _ _ _ _ _ _ _ _ _ (hw3.tp T 0)
set_option maxHeartbeats 4000000 in
set_option maxRecDepth 100000 in
theorem each_child {Fin : Goroutine → World → Prop} {K : Pr} {St : Nat → Prop} (hK : K gc c) (hrs : rs.length = n) (hn : n ≤ 1048576) {w : World} (hw : ChW gc gv gr A n cap rs w) :
    BO (childCx Wg c n (recVal rs) Fin K St) (.sd 0) ⟨55, #[.nilFunc, .pointer (some ⟨gv, 0, none⟩), .pointer (some ⟨gr, 0, none⟩), undef, undef, undef, undef, undef, undef, undef, undef, undef, undef, undef, undef], [.code bodyEC], false⟩ w := by
  let C := childCx Wg c n (recVal rs) Fin K St
  have hI : IOk C := ic_ok rfl
  let d1 := dcall 56 #[.pointer (some ⟨Wg, 0, none⟩)]
  let d2 := closeD #[76] 0 #[false] c
  have hI1 : IOk (C.dfr d1) := hI.dfr d1
  have hI2 : IOk ((C.dfr d1).dfr d2) := hI1.dfr d2
  have F : Fit3 C.P C.fs := fitF
  have fok : FnOk C.p 55 := ⟨_, Try.func55, .inl rfl⟩
  show BO C _ _ _
  rw [bodyEC_eq]
  refine BO.seq hI ?_
  generalize hk0 : (Item.code (rEC1.seq (rEC2.seq (Code.block 0 loopEC.loop))) :: ([] : List Item)) = K0
  simp only [rEC0, bodyEC, Try.f55, Option.getD_some]
  refine BO.regs hI [0] rfl ?_
  refine BO.defer hI (d := d1) (o := _) rfl rfl rfl (fun R w W tmps' _ _ hpin W₁ => ?_) ?_
  · have h0 := hpin (0, .pointer (some ⟨Wg, 0, none⟩)) (by show _ ∈ [_]; simp)
    have := exec_deferF (p := C.p) (o := ⟨none, .defer { callee := .value (.func 56), args := #[.tmp 0], argTypes := #[86] }, 0, "l8_bills.go:68", #[], none⟩) (ρ := (Go.Act.mk tmps' C.ds.ds).eval) rfl rfl W₁
    simp only [List.map_toArray, List.map_cons, List.map_nil, Go.Act.eval] at this
    simp only at h0
    rw [h0] at this
    exact this
  refine BO.regEnd hI1 ?_
  subst hk0
  refine BO.seq hI1 ?_
  generalize hk0 : (Item.code (rEC2.seq (Code.block 0 loopEC.loop)) :: ([] : List Item)) = K0
  simp only [rEC1, bodyEC, Try.f55, Option.getD_some]
  refine BO.regs hI1 [0, 1] rfl ?_
  refine BO.op (C := C.dfr d1) F hI1 (o := _) rfl rfl (by kernel_rfl) (by intro s hs; cases hs; show (5 : Nat) ∉ ([0] : List Nat); decide) (fun T => ⟨.chan (some gc), Tt.tp w T 0, .inl ?_, ?_⟩)
  · exact exec_load1 (a := ⟨gv, 0, none⟩) rfl rfl (Try.isAgg76 _) (blk_cell (hw.tp T 0).v 0)
  replace hw := hw.tp T 0
  generalize Tt.tp w T 0 = w1 at hw ⊢
  refine BO.defer hI1 (d := d2) (o := _) rfl rfl rfl (fun R w W tmps' hrel ha _ W₁ => ?_) ?_
  · have h5 := ha.getD 5 (vr_undef (S := SF C.fs) (K := K) (R := R))
    have h5' : tmps'.getD 5 undef = .chan (some c) := chan_rel (C := C.dfr d1) hrel hK h5
    have := exec_deferC (p := C.p) (o := ⟨none, .defer { callee := .builtin .close, args := #[.tmp 5], argTypes := #[76] }, 0, "l8_bills.go:69", #[{ on := 0, ground := Ground.data }], none⟩) (ρ := (Go.Act.mk tmps' (C.dfr d1).ds.ds).eval) (c := c) rfl h5' W₁
    exact this
  refine BO.regEnd hI2 ?_
  subst hk0
  refine BO.seq hI2 ?_
  refine BO.piece (C := (C.dfr d1).dfr d2) F hI2 (by kernel_rfl) fok (by kernel_rfl) (fun T => ?_)
  replace hw := hw.tp T 0
  generalize Tt.tp w1 T 0 = w2 at hw ⊢
  refine wpEC2 hn hw.r ⟨rfl, ?_⟩
  refine BO.block hI2 ?_
  refine BO.loop hI2 ?_
  refine each_child_loop ((C.dfr d1).dfr d2) rfl rfl rfl rfl rfl hI2 hK hrs hn (fun tmps w => ?_) n 0 (by omega) _ _ _ _ _ _ _ _ _ _ hw
  intro R W m' τ hr hm ht hi
  obtain ⟨fn', tmps', todo', ret'⟩ := m'
  obtain rfl := hm.fn
  obtain rfl := hm.todo
  obtain rfl := hm.ret
  rw [fx_ret]
  have hi' : IC wgl.tWg Wg c R τ W := hi
  exact child_end wgLib (A := pipe c n (recVal rs)) (l := .sd n) (nx := .dn) (by show pipeAct c n _ (.sd n) = _; simp [pipeAct]) rfl (fun _ => trivial) Try.func55 rfl rfl hi'.pass hi'.live tmps' [] #[76] 0 #[false]
end
end Go.Proofs.Ytjcpjijihajopaa
namespace Go.Proofs.Ytjcpjijihajopaa
open Go.RowKit Go.Mt Go.Conc Go.Tt Go.Conc.Lib Go.ConcR.Gen
set_option linter.unusedVariables false
noncomputable def bodyEM : Go.Code := (Try.f35.body).getD .skip
noncomputable def rEM0 : Go.Code := match bodyEM with | .seq a _ => a | _ => .skip
noncomputable def rEM1 : Go.Code := match bodyEM with | .seq _ (.seq a _) => a | _ => .skip
noncomputable def rEM2 : Go.Code := match bodyEM with | .seq _ (.seq _ (.seq a _)) => a | _ => .skip
noncomputable def rEM3 : Go.Code := match bodyEM with | .seq _ (.seq _ (.seq _ (.seq a _))) => a | _ => .skip
noncomputable def rEM4 : Go.Code := match bodyEM with | .seq _ (.seq _ (.seq _ (.seq _ (.seq a _)))) => a | _ => .skip
noncomputable def rEM5 : Go.Code := match bodyEM with | .seq _ (.seq _ (.seq _ (.seq _ (.seq _ (.seq (.seq a _) _))))) => a | _ => .skip
noncomputable def rEM9 : Go.Code := match bodyEM with | .seq _ (.seq _ (.seq _ (.seq _ (.seq _ (.seq _ a))))) => a | _ => .skip
noncomputable def loopEM : Go.Code := match bodyEM with | .seq _ (.seq _ (.seq _ (.seq _ (.seq _ (.seq (.seq _ (.block _ (.loop a))) _))))) => a | _ => .skip
noncomputable def rEM6 : Go.Code := match loopEM with | .seq a _ => a | _ => .skip
noncomputable def rEM7 : Go.Code := match loopEM with | .seq _ (.seq _ (.block _ (.seq a _))) => a | _ => .skip
noncomputable def rEM8 : Go.Code := match loopEM with | .seq _ (.seq _ (.block _ (.seq _ a))) => a | _ => .skip
theorem loopEM_eq : loopEM = .seq rEM6 (.seq (.cond (.tmp 12) .skip (.exit 0)) (.block 1 (.seq rEM7 rEM8))) := rfl
theorem bodyEM_eq : bodyEM = .seq rEM0 (.seq rEM1 (.seq rEM2 (.seq rEM3 (.seq rEM4 (.seq (.seq rEM5 (.block 0 (.loop loopEM))) rEM9))))) := rfl
structure EachI (f : FuncId) (cap : Array Value) (rs : List RecD) (I : Nat → World → Prop) : Prop where
  tape : ∀ k w T e, I k w → I k (Tt.tp w T e)
  al : ∀ k w cs T, I k w → I k (w.alloc (.cells cs T))
  step : ∀ k w d, rs[k]? = some d → I k w → Calls Try.prog f (#[d.val] ++ cap) w (fun e w' => ∃ v, e = .returned v ∧ I (k + 1) w')
section
variable {Q : Exit → Go.Act → World → Prop} {u0 u1 u2 u3 u4 u5 u6 u7 u8 u9 u10 u11 u12 u13 u14 u15 u16 u17 : Value} {w : World}
set_option maxHeartbeats 1000000 in
theorem wpEM7 {d : RecD} (h : Q .normal ⟨#[u0, u1, u2, u3, u4, u5, .pointer (some ⟨w.heap.size, 0, none⟩), u7, u8, u9, u10, .tuple #[d.val, .bool true], u12, d.val, u14, u15, u16, u17], []⟩ (w.alloc (.cells #[.int .i64 d.c, .int .i64 d.l, .int .i64 d.o, .int .i64 d.f, .int .i64 d.h, .int .i64 d.t, .string d.e] 50))) :
    Code.wp Try.prog rEM7 Q ⟨#[u0, u1, u2, u3, u4, u5, u6, u7, u8, u9, u10, .tuple #[d.val, .bool true], u12, u13, u14, u15, u16, u17], []⟩ w := by
  unfold RecD.val at h ⊢
  simp only [rEM7, loopEM, bodyEM, Try.f35, Option.getD_some]
  go_wp2
  exact h
end
section
variable {c n cap : Nat} {rs : List RecD} {gc gv : Nat} {f : FuncId} {capt : Array Value} {I : Nat → World → Prop}
theorem recVal_at {rs : List RecD} {k : Nat} {d : RecD} (h : rs[k]? = some d) : recVal rs k = d.val := by unfold recVal; rw [h]; rfl
theorem recD_vr (d : RecD) {S : FuncId → Prop} {K R : Pr} : VR S K R d.val d.val := by
  unfold RecD.val
  exact .agg' (((((((ArR.empty.push (.int _ _)).push (.int _ _)).push (.int _ _)).push (.int _ _)).push (.int _ _)).push (.int _ _)).push (.string _))
set_option maxHeartbeats 4000000 in
set_option maxRecDepth 100000 in
theorem each_main_loop (C : Cx PpL) (hp : C.p = Try.prog) (hgs : C.gs = gsF) (hfs : C.fs = fsF) (hA : C.A = pipe c n (recVal rs)) (hS : C.S = [5]) (hI : IOk C) (hK : C.K gc c) (hrs : rs.length = n) (E : EachI f capt rs I) (hf : gsF f = true)
    (hwait : ∀ tmps w, I n w → BO C .wt ⟨35, tmps, [.code rEM9], false⟩ w) :
    ∀ (m k : Nat), k + m = n → ∀ (w : World) (u0 u2 u3 u6 u7 u8 u9 u11 u12 u13 u14 u15 u16 u17 : Value), I k w →
      BO C (.rv k) ⟨35, #[u0, .func (.func f) #[] capt, u2, u3, .pointer (some ⟨gv, 0, none⟩), .nilFunc, u6, u7, u8, u9, .chan (some gc), u11, u12, u13, u14, u15, u16, u17], [.code loopEM, .inLoop loopEM, .inBlock 0, .code rEM9], false⟩ w := by
  have F : Fit3 C.P C.fs := by unfold Cx.P; rw [hp, hgs, hfs]; exact fitF
  have fok : FnOk C.p 35 := ⟨_, by rw [hp]; exact Try.func35, .inl rfl⟩
  have hz0 : (Try.prog.info? 50).map (fun i => i.zero) = some (some (RecD.val ⟨0, 0, 0, 0, 0, 0, ⟨#[]⟩⟩)) := by kernel_rfl
  obtain ⟨ie, hie, hz⟩ := Option.map_eq_some_iff.1 hz0
  have hie' : C.p.info? 50 = some ie := by rw [hp]; exact hie
  have hct : C.p.underlying 76 = some (.chan .both 50) := by rw [hp]; exact Try.underlying76
  have ext : ∀ (a b : Value) (W : World), (Instr.extract (.tuple #[a, b]) 1).run Try.prog W = .ok b W := fun a b W => by simp [Instr.extract, go_sem]
  intro m
  induction m with
  | zero =>
    intro k hk w u0 u2 u3 u6 u7 u8 u9 u11 u12 u13 u14 u15 u16 u17 hw
    obtain rfl : k = n := by omega
    rw [show Item.code loopEM = Item.code (.seq rEM6 (.seq (.cond (.tmp 12) .skip (.exit 0)) (.block 1 (.seq rEM7 rEM8)))) from congrArg _ loopEM_eq]
    refine BO.seq hI ?_
    generalize hk0 : (Item.code (.seq (.cond (.tmp 12) .skip (.exit 0)) (.block 1 (.seq rEM7 rEM8))) :: Item.inLoop loopEM :: Item.inBlock 0 :: [Item.code rEM9]) = K0
    simp only [rEM6, loopEM, bodyEM, Try.f35, Option.getD_some]
    refine BO.regs hI [0, 1] rfl ?_
    have hact : C.A.act (.rv k) = .recv c (fun v => k < k ∧ v = recVal rs k) (fun _ => .rv (k + 1)) .wt := by rw [hA]; rfl
    refine BO.recv hI (o := _) (g := gc) rfl rfl rfl hct hie' hz (fun R => recD_vr _) rfl rfl hK (by intro s hs; rw [hS]; cases hs; decide) hact (fun v hv => absurd hv.1 (Nat.lt_irrefl _)) (fun _ => ?_)
    refine BO.op F hI (o := _) rfl rfl (by rw [hp, hfs, hgs]; kernel_rfl) (by intro s hs; rw [hS]; cases hs; decide) (fun T => ⟨.bool false, Tt.tp w T 0, .inl ?_, ?_⟩)
    · rw [hp]
      have := ext (RecD.val ⟨0, 0, 0, 0, 0, 0, ⟨#[]⟩⟩) (.bool false) (Tt.tp w T 0)
      show Sem.run _ (Sem.bind (Instr.extract (.tuple #[RecD.val ⟨0, 0, 0, 0, 0, 0, ⟨#[]⟩⟩, .bool false]) 1) (fun v => Sem.pure (Next.value v))) _ = _
      rw [Sem.run_bind', this]; rfl
    refine BO.regEnd hI ?_
    subst hk0
    refine BO.seq hI ?_
    refine BO.cond hI (t := false) rfl rfl ?_
    exact BO.exit hI (k' := [.code rEM9]) rfl (hwait _ _ (E.tape _ _ _ _ hw))
  | succ m ih =>
    intro k hk w u0 u2 u3 u6 u7 u8 u9 u11 u12 u13 u14 u15 u16 u17 hw
    have hlt : k < n := by omega
    obtain ⟨d, hd⟩ : ∃ d, rs[k]? = some d := ⟨rs[k], List.getElem?_eq_getElem (by omega)⟩
    rw [show Item.code loopEM = Item.code (.seq rEM6 (.seq (.cond (.tmp 12) .skip (.exit 0)) (.block 1 (.seq rEM7 rEM8)))) from congrArg _ loopEM_eq]
    refine BO.seq hI ?_
    generalize hk0 : (Item.code (.seq (.cond (.tmp 12) .skip (.exit 0)) (.block 1 (.seq rEM7 rEM8))) :: Item.inLoop loopEM :: Item.inBlock 0 :: [Item.code rEM9]) = K0
    simp only [rEM6, loopEM, bodyEM, Try.f35, Option.getD_some]
    refine BO.regs hI [0, 1] rfl ?_
    have hact : C.A.act (.rv k) = .recv c (fun v => k < n ∧ v = recVal rs k) (fun _ => .rv (k + 1)) .wt := by rw [hA]; rfl
    refine BO.recv hI (o := _) (g := gc) rfl rfl rfl hct hie' hz (fun R => recD_vr _) rfl rfl hK (by intro s hs; rw [hS]; cases hs; decide) hact (fun v hv => ⟨d.val, fun R => ?_, ?_⟩) (fun hcl => ?_)
    · rw [hv.2, recVal_at hd]; exact recD_vr d
    rotate_left
    · exfalso
      rw [hA] at hcl
      have hcl' : PpL.rv k = PpL.rv n := hcl
      cases hcl'
      omega
    refine BO.op F hI (o := _) rfl rfl (by rw [hp, hfs, hgs]; kernel_rfl) (by intro s hs; rw [hS]; cases hs; decide) (fun T => ⟨.bool true, Tt.tp w T 0, .inl ?_, ?_⟩)
    · rw [hp]
      have := ext d.val (.bool true) (Tt.tp w T 0)
      show Sem.run _ (Sem.bind (Instr.extract (.tuple #[d.val, .bool true]) 1) (fun v => Sem.pure (Next.value v))) _ = _
      rw [Sem.run_bind', this]; rfl
    replace hw := E.tape _ _ T 0 hw
    generalize Tt.tp w T 0 = w1 at hw ⊢
    refine BO.regEnd hI ?_
    subst hk0
    refine BO.seq hI ?_
    refine BO.cond hI (t := true) rfl rfl ?_
    refine BO.skip hI ?_
    refine BO.block hI ?_
    refine BO.seq hI ?_
    refine BO.piece F hI (by rw [hp, hfs, hgs]; kernel_rfl) fok (by rw [hS]; kernel_rfl) (fun T => ?_)
    rw [hp]
    replace hw := E.tape _ _ T 0 hw
    generalize Tt.tp w1 T 0 = w2 at hw ⊢
    refine wpEM7 ⟨rfl, ?_⟩
    generalize hcs : (#[.int .i64 d.c, .int .i64 d.l, .int .i64 d.o, .int .i64 d.f, .int .i64 d.h, .int .i64 d.t, .string d.e] : Array Value) = cs
    have hr : (w2.alloc (.cells cs 50)).heap[w2.heap.size]? = some (.cells cs 50) := heap_alloc_new _ _
    replace hw := E.al _ _ cs 50 hw
    generalize w2.heap.size = N at hr ⊢
    generalize w2.alloc (.cells cs 50) = w3 at hw hr ⊢
    generalize hk0 : (Item.inBlock 1 :: Item.inLoop loopEM :: Item.inBlock 0 :: [Item.code rEM9]) = K0
    simp only [rEM8, loopEM, bodyEM, Try.f35, Option.getD_some]
    refine BO.regs hI [0, 1, 2] rfl ?_
    refine BO.op F hI (o := _) rfl rfl (by rw [hp, hfs, hgs]; kernel_rfl) (by intro s hs; rw [hS]; cases hs; decide) (fun T => ⟨.func (.func f) #[] capt, Tt.tp w3 T 0, .inl rfl, ?_⟩)
    replace hw := E.tape _ _ T 0 hw
    have hr' : (Tt.tp w3 T 0).heap[N]? = some (.cells cs 50) := hr
    clear hr
    generalize Tt.tp w3 T 0 = w4 at hw hr' ⊢
    refine BO.op F hI (o := _) rfl rfl (by rw [hp, hfs, hgs]; kernel_rfl) (by intro s hs; rw [hS]; cases hs; decide) (fun T => ⟨.agg cs, Tt.tp w4 T 0, .inl ?_, ?_⟩)
    · rw [hp]
      exact exec_loadRow (g := N) (T := 50) (fr := (0, 0)) rfl rfl hr' Try.underlying50 rfl (by rw [← hcs]; kernel_rfl)
    replace hw := E.tape _ _ T 0 hw
    generalize Tt.tp w4 T 0 = w5 at hw ⊢
    refine BO.callL F hI (o := _) (x := .tmp 14) (f := f) (first := #[]) (cap := capt) rfl rfl rfl (.dyn rfl rfl) (by simp [okX]) (by rw [hgs]; exact hf) (by intro s hs; rw [hS]; cases hs; decide) (Q := fun _ w' => I (k + 1) w') (fun _ _ _ _ h => E.tape _ _ _ _ h) (fun T => ?_) (fun v w' hQ => ?_)
    · rw [hp]
      have := E.step k (Tt.tp w5 T 0) d hd (E.tape _ _ _ _ hw)
      have e : d.val = .agg cs := by rw [← hcs]; rfl
      rw [e] at this
      simpa [Go.Act.put, Go.Act.eval] using this
    refine BO.regEnd hI ?_
    subst hk0
    refine BO.inBlock hI ?_
    refine BO.inLoop hI ?_
    exact ih (k + 1) (by omega) _ _ _ _ _ _ _ _ _ _ _ _ _ _ _ hQ
end
end Go.Proofs.Ytjcpjijihajopaa
namespace Go.Proofs.Ytjcpjijihajopaa
open Go.RowKit Go.Mt Go.Conc Go.Tt Go.Conc.Lib Go.ConcR.Gen
set_option linter.unusedVariables false
structure St4 (W W4 : World) (v1 : Value) : Prop where
  size : W4.heap.size = W.heap.size + 4
  keep : ∀ b, b < W.heap.size → W4.heap[b]? = W.heap[b]?
  b0 : W4.heap[W.heap.size]? = some (.cells #[v1] 25)
  b1 : W4.heap[W.heap.size + 1]? = some (.chan 0 #[] false 0 0 false)
  b2 : W4.heap[W.heap.size + 2]? = some (.cells #[.chan (some (W.heap.size + 1))] 76)
  b3 : Go.ConcR.WgAt 86 (W.heap.size + 3) W4 0 0
  os : W4.os = W.os
  tape : W4.tape = W.tape
  output : W4.output = W.output
set_option maxHeartbeats 4000000 in
set_option maxRecDepth 100000 in
theorem each_start {Post : Value → World → Prop} {Shun : Loc → Prop} {W : World} {A : Option Addr} {n cap : Nat} {v2 : Value} {CS : List Frame} (hsh : ∀ l b, onB l b → W.heap.size ≤ b → ¬ Shun l)
    (h : ∀ W4, St4 W W4 (.slice A n cap) → J Try.prog Post Shun (W.heap.size + 3) (G ((Conc.base 35).at ⟨#[.slice A n cap, v2, .pointer (some ⟨W.heap.size, 0, none⟩), undef, .pointer (some ⟨W.heap.size + 2, 0, none⟩), .pointer (some ⟨W.heap.size + 3, 0, none⟩), undef, .chan (some (W.heap.size + 1)), undef, undef, undef, undef, undef, undef, undef, undef, undef, undef], []⟩
      [.code rEM3, .code (.seq rEM4 (.seq (.seq rEM5 (.block 0 (.loop loopEM))) rEM9))]) CS) W4) :
    J Try.prog Post Shun W.heap.size (G (Frame.enter Try.prog 35 #[.slice A n cap, v2] .normal) CS) W := by
  obtain ⟨ie, hie⟩ : ∃ ie, Try.prog.info? 50 = some ie := Option.isSome_iff_exists.1 (by kernel_rfl)
  have hent : Frame.enter Try.prog 35 #[.slice A n cap, v2] .normal = (Conc.base 35).at ⟨#[.slice A n cap, v2, undef, undef, undef, undef, undef, undef, undef, undef, undef, undef, undef, undef, undef, undef, undef, undef], []⟩ [.code bodyEM] := Conc.enter_at _ Try.func35 rfl
  rw [hent, bodyEM_eq]
  have start : ∀ d, J Try.prog Post Shun W.heap.size (G ((Conc.base 35).at ⟨#[.slice A n cap, v2, undef, undef, undef, undef, undef, undef, undef, undef, undef, undef, undef, undef, undef, undef, undef, undef], []⟩ [.code (.seq rEM0 (.seq rEM1 (.seq rEM2 (.seq rEM3 (.seq rEM4 (.seq (.seq rEM5 (.block 0 (.loop loopEM))) rEM9))))))]) CS) (W.at d) := by
    generalize hk0 : Code.seq rEM4 (.seq (.seq rEM5 (.block 0 (.loop loopEM))) rEM9) = K0 at h
    refine J.sil rfl (fun w => stepG_seq) ?_
    generalize hk1 : Code.seq rEM1 (.seq rEM2 (.seq rEM3 K0)) = K1
    simp only [rEM0, bodyEM, Try.f35, Option.getD_some]
    refine J.sil rfl (fun w => stepG_region) ?_
    refine J.opv (o := _) (v := .pointer (some ⟨W.heap.size, 0, none⟩)) (w' := W.alloc (.cells #[.slice A n cap] 25)) rfl rfl (by decide) (fun d => .inl ?_) (fun d e he => ?_) (by rw [size_push]; omega) ?_
    · show _ = Result.ok _ ((W.at d).alloc _)
      have hz : (W.at d).heap.size = W.heap.size := rfl
      rw [← hz]
      simp [execOp, go_sem, Go.Act.eval]
    · simp [execOp, go_sem, Go.Act.eval] at he
    generalize hW1 : W.alloc (.cells #[.slice A n cap] 25) = W1
    have s1 : W1.heap.size = W.heap.size + 1 := by rw [← hW1, size_push]
    refine J.sil rfl (fun w => stepG_region_end) ?_
    subst hk1
    refine J.sil rfl (fun w => stepG_seq) ?_
    generalize hk1 : Code.seq rEM2 (.seq rEM3 K0) = K1
    simp only [rEM1, bodyEM, Try.f35, Option.getD_some]
    refine J.sil rfl (fun w => stepG_region) ?_
    refine J.opv (o := _) (v := .chan (some (W.heap.size + 1))) (w' := W1.alloc (.chan 0 #[] false 0 0 false)) rfl rfl (by decide) (fun d => .inl ?_) (fun d e he => ?_) (by rw [size_push]; omega) ?_
    · show _ = Result.ok _ ((W1.at d).alloc _)
      have hz : (W1.at d).heap.size = W.heap.size + 1 := s1
      rw [← hz]
      have hm : (Instr.makeChan 76 (.int .i64 0)).run Try.prog (W1.at d) = _ := run_makeChan (P := Try.prog) (w := W1.at d) Try.underlying76 hie .i64 0 (by omega) (by omega)
      exact run_bv hm
    · have hm : (Instr.makeChan 76 (.int .i64 0)).run Try.prog (W1.at d) = _ := run_makeChan (P := Try.prog) (w := W1.at d) Try.underlying76 hie .i64 0 (by omega) (by omega)
      have hv := events_makeChan (P := Try.prog) (w := W1.at d) Try.underlying76 hie .i64 0 (by omega) (by omega) #[]
      have := ev_bv hm hv
      rw [show Sem.events _ (execOp _ _) _ _ = #[] from this] at he
      simp at he
    generalize hW2 : W1.alloc (.chan 0 #[] false 0 0 false) = W2
    have s2 : W2.heap.size = W.heap.size + 2 := by rw [← hW2, size_push, s1]
    refine J.opv (o := _) (v := .pointer (some ⟨W.heap.size + 2, 0, none⟩)) (w' := W2.alloc (.cells #[.chan none] 76)) rfl rfl (by decide) (fun d => .inl ?_) (fun d e he => ?_) (by rw [size_push]; omega) ?_
    · show _ = Result.ok _ ((W2.at d).alloc _)
      have hz : (W2.at d).heap.size = W.heap.size + 2 := s2
      rw [← hz]
      simp [execOp, go_sem, Go.Act.eval]
    · simp [execOp, go_sem, Go.Act.eval] at he
    generalize hW3 : W2.alloc (.cells #[.chan none] 76) = W3
    have s3 : W3.heap.size = W.heap.size + 3 := by rw [← hW3, size_push, s2]
    have hb2 : W3.heap[W.heap.size + 2]? = some (.cells #[.chan none] 76) := by rw [← hW3, ← s2]; exact heap_push _ _
    refine J.opv (o := _) (v := undef) (w' := W3.setCell ⟨W.heap.size + 2, 0, none⟩ (.chan (some (W.heap.size + 1)))) rfl rfl (by decide) (fun d => .inr ⟨?_, rfl⟩) (fun d e he => ?_) (by rw [setCell_size]; omega) ?_
    · have hc := blk_cell (w := W3.at d) hb2 0
      have hf := blk_frozen' (w := W3.at d) hb2 0
      show _ = Result.ok _ ((W3.at d).setCell _ _)
      simp [execOp, go_sem, Go.Act.eval, Go.Act.put, stored, hc, hf]
    · have hc := blk_cell (w := W3.at d) hb2 0
      have hf := blk_frozen' (w := W3.at d) hb2 0
      simp [execOp, go_sem, Go.Act.eval, Go.Act.put, storedEv, hc, hf] at he
      subst he
      exact evL_own (hsh _ (W.heap.size + 2) rfl (by omega)) (by rw [setCell_size, s3]; show W.heap.size + 2 < _; omega)
    have hb2' := blk_setCell hb2 (.chan (some (W.heap.size + 1))) (i := 0)
    have hW4k : ∀ b, b ≠ W.heap.size + 2 → (W3.setCell ⟨W.heap.size + 2, 0, none⟩ (.chan (some (W.heap.size + 1)))).heap[b]? = W3.heap[b]? := fun b hb => setCell_ne W3 _ _ hb
    have hW4s : (W3.setCell ⟨W.heap.size + 2, 0, none⟩ (.chan (some (W.heap.size + 1)))).heap.size = W.heap.size + 3 := by rw [setCell_size, s3]
    have hA := aside_setCell W3 ⟨W.heap.size + 2, 0, none⟩ (.chan (some (W.heap.size + 1)))
    generalize hW4 : W3.setCell ⟨W.heap.size + 2, 0, none⟩ (.chan (some (W.heap.size + 1))) = W4 at hb2' hW4k hW4s hA ⊢
    refine J.sil rfl (fun w => stepG_region_end) ?_
    subst hk1
    refine J.sil rfl (fun w => stepG_seq) ?_
    simp only [rEM2, bodyEM, Try.f35, Option.getD_some]
    refine J.sil rfl (fun w => stepG_region) ?_
    rw [hW4s]
    refine J.opq (o := _) (v := .pointer (some ⟨W.heap.size + 3, 0, none⟩)) (w' := W4.alloc (.cells #[.int .u64 0, .int .u32 0] 86)) rfl rfl (by decide) (fun d => ?_) (fun d e he => ?_) ?_
    · show _ = Result.ok _ ((W4.at d).alloc _)
      have hz : (W4.at d).heap.size = W.heap.size + 3 := hW4s
      rw [← hz]
      simp [execOp, go_sem, Go.Act.eval]
    · simp [execOp, go_sem, Go.Act.eval] at he
    refine J.sil rfl (fun w => stepG_region_end) ?_
    refine J.sil rfl (fun w => stepG_seq) ?_
    subst hk0
    intro d
    have k1 : ∀ b, b < W.heap.size + 1 → W4.heap[b]? = W1.heap[b]? := fun b hb => by
      rw [hW4k b (by omega), ← hW3, heap_push_lt (by rw [s2]; omega), ← hW2, heap_push_lt (by rw [s1]; omega)]
    have hst : St4 W ((W4.alloc (.cells #[.int .u64 0, .int .u32 0] 86)).at d) (.slice A n cap) := by
     refine ⟨?_, fun b hb => ?_, ?_, ?_, ?_, ?_, ?_, ?_, ?_⟩
     · show (W4.alloc _).heap.size = _
       rw [size_push, hW4s]
     · show (W4.alloc _).heap[b]? = _
       rw [heap_push_lt (by rw [hW4s]; omega), k1 b (by omega), ← hW1, heap_push_lt hb]
     · show (W4.alloc _).heap[_]? = _
       rw [heap_push_lt (by rw [hW4s]; omega), k1 _ (by omega), ← hW1, heap_push]
     · show (W4.alloc _).heap[_]? = _
       rw [heap_push_lt (by rw [hW4s]; omega), hW4k _ (by omega), ← hW3, heap_push_lt (by rw [s2]; omega), ← hW2, ← s1, heap_push]
     · show (W4.alloc _).heap[_]? = _
       rw [heap_push_lt (by rw [hW4s]; omega), hb2']
       rfl
     · show (W4.alloc _).heap[_]? = _
       rw [← hW4s, heap_push]
       rfl
     · show W4.os = _
       rw [hA.os, ← hW3, ← hW2, ← hW1]; rfl
     · show W4.tape = _
       rw [hA.tape, ← hW3, ← hW2, ← hW1]; rfl
     · show W4.output = _
       rw [hA.output, ← hW3, ← hW2, ← hW1]; rfl
    exact h _ hst
  have := start W.drawn
  exact this
end Go.Proofs.Ytjcpjijihajopaa
namespace Go.Proofs.Ytjcpjijihajopaa
open Go.RowKit Go.Mt Go.Conc Go.Tt Go.Conc.Lib Go.ConcR.Gen
set_option linter.unusedVariables false
noncomputable def mainCx (Wg c n : Nat) (val : Nat → Value) (Fin : Goroutine → World → Prop) (K : Pr) (St : Nat → Prop) (I : Pr → Terr → World → Prop) (base : List Frame) : Cx PpL :=
  { p := Try.prog, gs := gsF, fs := fsF, ty := wgl.tWg, Wg := Wg, A := pipe c n val, Fin := Fin, main := true, base := base, ds := .nil, K := K, St := St, I := I, pin := [(5, .pointer (some ⟨Wg, 0, none⟩))] }
abbrev shunG (Shun : Loc → Prop) (Wg : Nat) : Loc → Prop := fun l => Shun l ∨ onB l Wg
abbrev finJ (Post : Value → World → Prop) (Shun : Loc → Prop) (Wg : Nat) : Goroutine → World → Prop := fun g w' => J Try.prog Post (shunG Shun Wg) w'.heap.size g w'
noncomputable def ops9 : Array Oper := match rEM9 with | .region _ ops _ => ops | _ => #[]
theorem rEM9_eq : rEM9 = .region 9 ops9 false := rfl
abbrev oper9 : Oper := ⟨some 17, .call ⟨.value (.func 57), #[.tmp 5], #[86]⟩, 0, "l8_bills.go:77", #[], none⟩
theorem ops9_at : ops9[0]? = some oper9 := rfl
theorem ops9_range : List.range ops9.size = [0] := rfl
set_option maxRecDepth 100000 in
theorem wait_ent (Wg : Nat) : Frame.enter Try.prog 57 #[.pointer (some ⟨Wg, 0, none⟩)] .normal = (Conc.base wgl.wait).at ⟨#[.pointer (some ⟨Wg, 0, none⟩), undef, undef, undef, undef, undef, undef, undef, undef, undef, undef, undef, undef, undef, undef, undef, undef, undef, undef, undef, undef, undef, undef, undef, undef, undef, undef, undef, undef, undef, undef, undef, undef, undef, undef, undef, undef, undef, undef, undef, undef, undef, undef, undef, undef, undef, undef, undef, undef, undef, undef, undef, undef, undef, undef, undef, undef, undef, undef, undef, undef, undef, undef, undef, undef, undef, undef, undef, undef, undef, undef, undef, undef, undef, undef, undef, undef, undef, undef, undef, undef, undef, undef, undef], []⟩ [.code (body_wait wgl)] := by
  have h := Conc.enter_at (P := Try.prog) (f := wgl.wait) (fn := waitFn wgl) (c := body_wait wgl) #[.pointer (some ⟨Wg, 0, none⟩)] wgLib.f_wait rfl
  rw [h]
  have e : (waitFn wgl).ntmps = 84 := rfl
  rw [e]
  walk_nrm
set_option maxRecDepth 100000 in
theorem add_ent (Wg : Nat) : Frame.enter Try.prog 54 #[.pointer (some ⟨Wg, 0, none⟩), .int .i64 1] .normal = (Conc.base wgl.add).at ⟨#[.pointer (some ⟨Wg, 0, none⟩), .int .i64 1, undef, undef, undef, undef, undef, undef, undef, undef, undef, undef, undef, undef, undef, undef, undef, undef, undef, undef, undef, undef, undef, undef, undef, undef, undef, undef, undef, undef, undef, undef, undef, undef, undef, undef, undef, undef, undef, undef, undef, undef, undef, undef, undef, undef, undef, undef, undef, undef, undef, undef, undef, undef, undef, undef, undef, undef, undef, undef, undef, undef, undef, undef, undef, undef, undef, undef, undef, undef, undef, undef, undef, undef, undef, undef, undef, undef, undef, undef, undef, undef, undef, undef, undef, undef, undef, undef, undef, undef, undef, undef, undef, undef, undef, undef, undef, undef, undef, undef, undef, undef, undef, undef, undef, undef, undef, undef, undef, undef, undef, undef, undef, undef, undef, undef, undef], []⟩ [.code (body_add wgl)] := by
  have h := Conc.enter_at (P := Try.prog) (f := wgl.add) (fn := addFn wgl) (c := body_add wgl) #[.pointer (some ⟨Wg, 0, none⟩), .int .i64 1] wgLib.f_add rfl
  rw [h]
  have e : (addFn wgl).ntmps = 117 := rfl
  rw [e]
  walk_nrm
section
variable {Post : Value → World → Prop} {Shun : Loc → Prop} {W0 : World} {St : Nat → Prop} {Wg c n : Nat} {rs : List RecD} {K : Pr} {StM : Nat → Prop} {IXX : Pr → Terr → World → Prop} {I : Nat → World → Prop} {cf : Frame} {cs : List Frame}
set_option maxHeartbeats 4000000 in
set_option maxRecDepth 100000 in
theorem each_wait (hC : IOk (mainCx Wg c n (recVal rs) (finJ Post Shun Wg) K StM (withLive wgl.tWg Wg IXX) (cf :: cs))) (hX : IX wgl.tWg Wg IXX)
    (hcont : ∀ (R : Pr) (τ : Terr) (wn Wn : World), WRel (SF fsF) K R Try.prog.globals.size StM wn Wn → Terra τ R StM → IXX R τ Wn → I n wn → J Try.prog Post (shunG Shun Wg) Wn.heap.size (G (cf.finish (.tuple #[])) cs) Wn)
    (tmps : Array Value) (w : World) (hw : I n w) : BO (mainCx Wg c n (recVal rs) (finJ Post Shun Wg) K StM (withLive wgl.tWg Wg IXX) (cf :: cs)) .wt ⟨35, tmps, [.code rEM9], false⟩ w := by
  intro R W m' τ hr hm ht hi
  obtain ⟨fn', tmps', todo', ret'⟩ := m'
  obtain rfl := hm.fn
  obtain rfl := hm.todo
  obtain rfl := hm.ret
  have h5 : tmps'.getD 5 undef = .pointer (some ⟨Wg, 0, none⟩) := hm.pins (5, .pointer (some ⟨Wg, 0, none⟩)) (List.mem_singleton.2 rfl)
  rw [fx_at]
  rw [rEM9_eq]
  refine beh_silent rfl rfl (fun W₁ s => stepG_region) fun W₁ s => ?_
  rw [ops9_range]
  have hr1 : WRel (SF fsF) K R Try.prog.globals.size StM w W₁ := Cx.Rel.suf (C := mainCx Wg c n (recVal rs) (finJ Post Shun Wg) K StM (withLive wgl.tWg Wg IXX) (cf :: cs)) hr ht s
  have hi1 : withLive wgl.tWg Wg IXX R τ W₁ := hC.suf _ _ _ _ hi s
  let F : World → Prop := fun W' => WRel (SF fsF) K R Try.prog.globals.size StM w W' ∧ IXX R τ W'
  have kf : KeepF wgl.tWg Wg τ F := by
    refine ⟨fun W' W'' s hF => ⟨WRel.suf hF.1 ht (fun a b x => (hF.1.lt a b (.inr x)).2) s, hX.suf _ _ _ _ hF.2 s⟩, fun W' a v ha hF => ⟨?_, hX.cell _ _ _ _ _ hF.2 ha⟩⟩
    exact WRel.real hF.1 (fun x b hx => setCell_ne W' a v (by rw [ha]; exact hX.rel _ _ _ hF.2 x b hx)) (by rw [setCell_size]; exact Nat.le_refl _)
  show BehE Try.prog wgl.tWg Wg (pipe c n (recVal rs)) (finJ Post Shun Wg) true (.usr .wt) 0 τ (G ((Conc.base 35).at ⟨tmps', []⟩ [.inRegion ops9 [0]]) (cf :: cs)) W₁
  refine beh_silent rfl rfl (g' := G ((Conc.base wgl.wait).at ⟨#[.pointer (some ⟨Wg, 0, none⟩), undef, undef, undef, undef, undef, undef, undef, undef, undef, undef, undef, undef, undef, undef, undef, undef, undef, undef, undef, undef, undef, undef, undef, undef, undef, undef, undef, undef, undef, undef, undef, undef, undef, undef, undef, undef, undef, undef, undef, undef, undef, undef, undef, undef, undef, undef, undef, undef, undef, undef, undef, undef, undef, undef, undef, undef, undef, undef, undef, undef, undef, undef, undef, undef, undef, undef, undef, undef, undef, undef, undef, undef, undef, undef, undef, undef, undef, undef, undef, undef, undef, undef, undef], []⟩ [.code (body_wait wgl)]) ((Conc.base 35).at ⟨tmps', []⟩ [.inRegion ops9 [0]] :: cf :: cs)) (fun W₂ s2 => ?_) fun W₂ s2 => ?_
  · obtain ⟨x1, x2⟩ := exec_call (p := Try.prog) (o := oper9) rfl (ρ := (Go.Act.mk tmps' []).eval) (fun g => rfl) wgLib.f_wait rfl rfl W₂
    have hst := stepG_enter (main := true) (b := Conc.base 35) (a := ⟨tmps', []⟩) (rest := []) (cs := cf :: cs) (k := []) ops9_at rfl (by decide) x1
    rw [hst]
    unfold listed
    rw [x2, Conc.seen_none]
    simp only [List.map_toArray, List.map_cons, List.map_nil, Go.Act.eval]
    rw [h5, wait_ent]
  · have hF2 : F W₂ := kf.suf _ _ s2 ⟨hr1, hi1.1⟩
    have hJ : ∀ Wn, F Wn → ∀ d, finJ Post Shun Wg (G ((Conc.base 35).at (Go.Act.put ⟨tmps', []⟩ ((ops9[0]?).bind (·.dst)) (.tuple #[])) [.inRegion ops9 []]) (cf :: cs)) (Wn.at d) := fun Wn hFn => by
      show ∀ d, J Try.prog Post (shunG Shun Wg) Wn.heap.size (G ((Conc.base 35).at (Go.Act.put ⟨tmps', []⟩ ((ops9[0]?).bind (·.dst)) (.tuple #[])) [.inRegion ops9 []]) (cf :: cs)) (Wn.at d)
      refine J.sil rfl (fun w => stepG_region_end) ?_
      refine J.sil rfl (fun w => stepG_end) ?_
      refine J.sil rfl (g' := G (cf.finish (.tuple #[])) cs) (fun w => stepG_leave (fn := Try.f35) (v := .tuple #[]) rfl rfl Try.func35 (results_none rfl _ _ _) (Conc.events_results_none rfl _ _)) ?_
      intro d
      exact hcont R τ w (Wn.at d) (WRel.at hFn.1 d) ht (hX.at_ _ _ _ d hFn.2) hw
    exact waitW (A := pipe c n (recVal rs)) (b₀ := Conc.base 35) (a₀ := ⟨tmps', []⟩) (ops₀ := ops9) (i₀ := 0) (rest₀ := []) (k₀ := []) (cs := cf :: cs) (Fin := finJ Post Shun Wg) (l := PpL.wt) (τ := τ) (Wg := Wg) wgLib rfl kf (fun n g w h => fin_goes n g w h) (fun Wn hFn _ _ => hJ Wn hFn) W₂ ⟨hF2, s2.live hi1.2⟩
set_option maxHeartbeats 4000000 in
set_option maxRecDepth 100000 in
theorem each_main {Fin : Goroutine → World → Prop} {IC : Pr → Terr → World → Prop} {f : FuncId} {capt : Array Value} {gc gv : Nat} (hC : IOk (mainCx Wg c n (recVal rs) Fin K StM IC (cf :: cs))) (hK : K gc c) (hrs : rs.length = n) (E : EachI f capt rs I) (hf : gsF f = true)
    (hwait : ∀ tmps w, I n w → BO (mainCx Wg c n (recVal rs) Fin K StM IC (cf :: cs)) .wt ⟨35, tmps, [.code rEM9], false⟩ w) {ops4 : Array Oper} {u0 u2 u3 u6 u7 u8 u9 u10 u11 u12 u13 u14 u15 u16 u17 : Value} {w : World} (hw : I 0 w) (hv : w.heap[gv]? = some (.cells #[.chan (some gc)] 76 (0, 1))) :
    BO (mainCx Wg c n (recVal rs) Fin K StM IC (cf :: cs)) (.rv 0) ⟨35, #[u0, .func (.func f) #[] capt, u2, u3, .pointer (some ⟨gv, 0, none⟩), .nilFunc, u6, u7, u8, u9, u10, u11, u12, u13, u14, u15, u16, u17], [.inRegion ops4 [], .code (.seq (.seq rEM5 (.block 0 (.loop loopEM))) rEM9)], false⟩ w := by
  let C := mainCx Wg c n (recVal rs) Fin K StM IC (cf :: cs)
  have F : Fit3 C.P C.fs := fitF
  refine BO.regEnd hC ?_
  refine BO.seq hC ?_
  refine BO.seq hC ?_
  generalize hk0 : (Item.code (.block 0 (.loop loopEM)) :: [Item.code rEM9]) = K0
  simp only [rEM5, bodyEM, Try.f35, Option.getD_some]
  refine BO.regs hC [0] rfl ?_
  refine BO.op (C := C) F hC (o := _) rfl rfl (by kernel_rfl) (by intro s hs; cases hs; show (10 : Nat) ∉ ([5] : List Nat); decide) (fun T => ⟨.chan (some gc), Tt.tp w T 0, .inl ?_, ?_⟩)
  · exact exec_load1 (a := ⟨gv, 0, none⟩) rfl rfl (Try.isAgg76 _) (blk_cell (w := Tt.tp w T 0) hv 0)
  refine BO.regEnd hC ?_
  subst hk0
  refine BO.block hC ?_
  refine BO.loop hC ?_
  exact each_main_loop C rfl rfl rfl rfl rfl hC hK hrs E hf hwait n 0 (by omega) _ _ _ _ _ _ _ _ _ _ _ _ _ _ _ (E.tape _ _ _ _ hw)
end
end Go.Proofs.Ytjcpjijihajopaa
namespace Go.Proofs.Ytjcpjijihajopaa
open Go.RowKit Go.Mt Go.Conc Go.Tt Go.Conc.Lib Go.ConcR.Gen
set_option linter.unusedVariables false
noncomputable def ops3 : Array Oper := match rEM3 with | .region _ ops _ => ops | _ => #[]
noncomputable def ops4 : Array Oper := match rEM4 with | .region _ ops _ => ops | _ => #[]
theorem rEM3_eq : rEM3 = .region 3 ops3 false := rfl
theorem rEM4_eq : rEM4 = .region 4 ops4 false := rfl
abbrev oper3 : Oper := ⟨some 8, .call ⟨.value (.func 54), #[.tmp 5, .const (.int .i64 1)], #[86, 3]⟩, 0, "l8_bills.go:66", #[], none⟩
abbrev oper40 : Oper := ⟨some 9, .makeFunc (.func 55) #[] #[.tmp 5, .tmp 4, .tmp 2], 1, "l8_bills.go:67", #[], none⟩
abbrev oper41 : Oper := ⟨none, .go ⟨.value (.tmp 9), #[], #[]⟩, 0, "l8_bills.go:67", #[{ on := 0, ground := Ground.data }], none⟩
theorem ops3_at : ops3[0]? = some oper3 := rfl
theorem ops4_0 : ops4[0]? = some oper40 := rfl
theorem ops4_1 : ops4[1]? = some oper41 := rfl
theorem ops3_range : List.range ops3.size = [0] := rfl
theorem ops4_range : List.range ops4.size = [0, 1] := rfl
structure F4 (R : Pr) (W0 W : World) (v : Value) (W' : World) : Prop where
  rel : ∀ a b, R a b → W'.heap[b]? = W.heap[b]?
  b0 : W'.heap[W.heap.size]? = some (.cells #[v] 25)
  b1 : W'.heap[W.heap.size + 1]? = some (.chan 0 #[] false 0 0 false)
  b2 : W'.heap[W.heap.size + 2]? = some (.cells #[.chan (some (W.heap.size + 1))] 76)
  os : W'.os = W.os
  tape : W'.tape = W.tape
  output : W'.output = W.output
  old : ∀ b, b < W0.heap.size → W'.heap[b]? = W0.heap[b]?
  size : W.heap.size + 4 ≤ W'.heap.size
theorem chw_ghost {w : World} {A : Option Addr} {src : Option Blk} {n cap : Nat} {rs : List RecD} (hs : srcOk w A src) (h : Slc w 0 w.heap.size 7 A n cap (recs rs)) :
    ChW w.heap.size (w.heap.size + 1) (numC w src) (sliceC w src) n cap rs (ghostC w src 76 25 n cap) := by
  have e1 : (w.alloc waste).heap.size = w.heap.size + 1 := size_push _ _
  have e2 : ((w.alloc waste).alloc (.cells #[.chan (some w.heap.size)] 76 (0, 1))).heap.size = w.heap.size + 2 := by rw [size_push, e1]
  cases src with
  | none =>
    obtain rfl : A = none := hs
    have hn : n = 0 := by
      rcases Nat.eq_zero_or_pos n with h0 | h0
      · exact h0
      · obtain ⟨_, _, e, _⟩ := h.at_ h0; cases e
    refine ⟨?_, ?_, h.len, h.le, h.cap, fun h0 => by omega⟩
    · show (World.alloc _ _).heap[_]? = _
      rw [heap_push_lt (by rw [e2]; omega), ← e1, heap_push]
    · show (World.alloc _ _).heap[_]? = _
      show _[w.heap.size + 2]? = _
      rw [← e2, heap_push]; rfl
  | some b =>
    obtain ⟨rfl, hb, _⟩ := hs
    have e3 : (((w.alloc waste).alloc (.cells #[.chan (some w.heap.size)] 76 (0, 1))).alloc (.cells b.cs b.T (0, max b.cs.size b.fz.2))).heap.size = w.heap.size + 3 := by rw [size_push, e2]
    have hb2 : (ghostC w (some b) 76 25 n cap).heap[w.heap.size + 2]? = some (.cells b.cs b.T (0, max b.cs.size b.fz.2)) := by
      show (World.alloc _ _).heap[_]? = _
      rw [heap_push_lt (by rw [e3]; omega), ← e2, heap_push]
    refine ⟨?_, ?_, h.len, h.le, h.cap, fun h0 => ⟨_, _, rfl, Nat.zero_le _, ?_, ?_, fun j v hv => ?_⟩⟩
    · show (World.alloc _ _).heap[_]? = _
      rw [heap_push_lt (by rw [e3]; omega), heap_push_lt (by rw [e2]; omega), ← e1, heap_push]
    · show (World.alloc _ _).heap[w.heap.size + 3]? = _
      rw [← e3, heap_push]; rfl
    · show w.heap.size + 2 < (World.alloc _ _).heap.size
      rw [size_push, e3]; omega
    · show w.heap.size + 2 < (World.alloc _ _).heap.size
      rw [size_push, e3]; omega
    · obtain ⟨b1, off, e, _, _, _, h4⟩ := h.at_ h0
      simp only [Option.some.injEq, Addr.mk.injEq] at e
      obtain ⟨rfl, rfl, _⟩ := e
      have := h4 j v hv
      rw [blk_cell hb] at this
      rw [blk_cell hb2]
      exact this
section
variable {Post : Value → World → Prop} {Shun : Loc → Prop} {W0 : World} {St : Nat → Prop} {n cap : Nat} {rs : List RecD} {K R : Pr} {I : Nat → World → Prop} {cf : Frame} {cs : List Frame} {f : FuncId} {capt : Array Value} {A A' : Option Addr} {vf' : Value} {w W W4 : World} {src : Option Blk}
def tau0 (R : Pr) (St : Nat → Prop) (src : Option Blk) (W0 W : World) : Terr := ⟨fun b => (∃ a, R a b ∧ ¬ StF St src a) ∨ b = W.heap.size ∨ b = W.heap.size + 1 ∨ b = W.heap.size + 2, fun b => b < W0.heap.size ∨ ∃ a, R a b ∧ StF St src a, fun _ => False⟩
def tauM (R : Pr) (St : Nat → Prop) (src : Option Blk) (W0 W : World) : Terr := ⟨fun b => ∃ a, R a b ∧ ¬ StF St src a, fun b => b < W0.heap.size ∨ (∃ a, R a b ∧ StF St src a) ∨ b = W.heap.size + 2, fun _ => False⟩
def tauC (R : Pr) (St : Nat → Prop) (src : Option Blk) (W0 W : World) : Terr := ⟨fun _ => False, fun b => b < W0.heap.size ∨ (∃ a, R a b ∧ StF St src a) ∨ b = W.heap.size ∨ b = W.heap.size + 2, fun b => b = W.heap.size + 1⟩
theorem f4_keep {v : Value} (hlt : ∀ a b, R a b → b < W.heap.size) (hW0 : W0.heap.size ≤ W.heap.size) : KeepF wgl.tWg (W.heap.size + 3) (tau0 R St src W0 W) (F4 R W0 W v) := by
  refine ⟨fun W' W'' s h => ?_, fun W' a v ha h => ?_⟩
  · refine ⟨fun a b x => (s.keep b ?_).trans (h.rel a b x), (s.keep _ (.inl (.inr (.inl rfl)))).trans h.b0, (s.keep _ (.inl (.inr (.inr (.inl rfl))))).trans h.b1, (s.keep _ (.inl (.inr (.inr (.inr rfl))))).trans h.b2, s.os.trans h.os, s.tape.trans h.tape, s.output.trans h.output, fun b hb => (s.keep b (.inr (.inl hb))).trans (h.old b hb), Nat.le_trans h.size s.size⟩
    by_cases e : StF St src a
    · exact .inr (.inr ⟨a, x, e⟩)
    · exact .inl (.inl ⟨a, x, e⟩)
  · have hA1 := aside_setCell W' a v
    refine ⟨fun x b hx => (setCell_ne W' a v (by have := hlt x b hx; omega)).trans (h.rel x b hx), (setCell_ne W' a v (by omega)).trans h.b0, (setCell_ne W' a v (by omega)).trans h.b1, (setCell_ne W' a v (by omega)).trans h.b2, hA1.os.trans h.os, hA1.tape.trans h.tape, hA1.output.trans h.output, fun b hb => (setCell_ne W' a v (by omega)).trans (h.old b hb), by rw [setCell_size]; exact h.size⟩
abbrev fzB (R : Pr) (St : Nat → Prop) (src : Option Blk) (b : Nat) : Prop := ∃ a, R a b ∧ StF St src a
set_option maxHeartbeats 4000000 in
set_option maxRecDepth 100000 in
theorem go_main (hw : WRel (SF fsF) K R Try.prog.globals.size St w W) (hsh : Sh W0.heap.size Shun R W) (hk : Kp W0 R St W) (hs : srcOk w A src) (hslc : Slc w 0 w.heap.size 7 A n cap (recs rs))
    (hA : OaR R A A') (hvf : VR (SF fsF) K R (.func (.func f) #[] capt) vf') (E : EachI f capt rs I) (hf : gsF f = true) (hI0 : I 0 (ghostM w src 76))
    (hcont : ∀ (K' R' : Pr) (wn Wn : World), K.le K' → R.le R' → WRel (SF fsF) K' R' Try.prog.globals.size St (thaw wn src) Wn → I n wn → Sh W0.heap.size (shunG Shun (W.heap.size + 3)) R' Wn → Kp W0 R' St Wn → J Try.prog Post (shunG Shun (W.heap.size + 3)) Wn.heap.size (G (cf.finish (.tuple #[])) cs) Wn)
    {W7 : World} (h7 : F4 R W0 W (.slice A' n cap) W7) (hl7 : WgLive wgl.tWg (W.heap.size + 3) W7) :
    BehE Try.prog wgl.tWg (W.heap.size + 3) (pipe (W.heap.size + 1) n (recVal rs)) (finJ Post Shun (W.heap.size + 3)) true (.usr (.rv 0)) 0 (tauM R St src W0 W) (G ((Conc.base 35).at ⟨#[.slice A' n cap, vf', .pointer (some ⟨W.heap.size, 0, none⟩), undef, .pointer (some ⟨W.heap.size + 2, 0, none⟩), .pointer (some ⟨W.heap.size + 3, 0, none⟩), undef, .chan (some (W.heap.size + 1)), .tuple #[], .func (.func 55) #[] #[.pointer (some ⟨W.heap.size + 3, 0, none⟩), .pointer (some ⟨W.heap.size + 2, 0, none⟩), .pointer (some ⟨W.heap.size, 0, none⟩)], undef, undef, undef, undef, undef, undef, undef, undef], []⟩ [.inRegion ops4 [], .code (.seq (.seq rEM5 (.block 0 (.loop loopEM))) rEM9)]) (cf :: cs)) W7 := by
  have hrs : rs.length = n := hslc.recLen
  have hlt : ∀ a b, R a b → b < W.heap.size := fun a b x => (hw.lt a b (.inl x)).2
  have hsR : ∀ b, src = some b → ∃ b', R b.rb b' := fun b e => by
    subst e
    obtain ⟨rfl, _, _⟩ := hs
    cases hA with
    | some x => cases x with | mk x => exact ⟨_, x⟩
  have hW0 : W0.heap.size ≤ W.heap.size := hk.size
  let Fz : Nat → Prop := fzB R St src
  let SS : Nat → Prop := (tauM R St src W0 W).still
  have hSS : ∀ b, b < W0.heap.size → SS b := fun b hb => .inl hb
  have hF : ∀ b, Fz b → SS b := fun b hb => .inr (.inl hb)
  have hlow : W0.heap.size ≤ W.heap.size + 3 := by omega
  have hrel := main_rel hw hs hsR (N1 := W.heap.size + 1) (N2 := W.heap.size + 2) (Tc := 76) (W4 := W7) (by omega) (by omega) (by omega) h7.rel (by have := h7.size; omega) h7.b2
  let C : Cx PpL := mainCx (W.heap.size + 3) (W.heap.size + 1) n (recVal rs) (finJ Post Shun (W.heap.size + 3)) (K.add w.heap.size (W.heap.size + 1)) (stM St src w) (withLive wgl.tWg (W.heap.size + 3) (IMX W0 St (shunG Shun (W.heap.size + 3)) (W.heap.size + 3) SS R Fz W)) (cf :: cs)
  have hC : IOk C := imx_ok (C := C) rfl (fun a x => .inl (.inl x)) hSS hF hlow
  have hX : IX wgl.tWg (W.heap.size + 3) (IMX W0 St (shunG Shun (W.heap.size + 3)) (W.heap.size + 3) SS R Fz W) := imx_ix hSS hF hlow
  have hwait : ∀ tmps w', I n w' → BO C .wt ⟨35, tmps, [.code rEM9], false⟩ w' := fun tmps w' hw' => by
    refine each_wait (K := K.add w.heap.size (W.heap.size + 1)) (StM := stM St src w) hC hX (fun R' τ wn Wn hr ht hi hin => ?_) tmps w' hw'
    refine hcont (K.add w.heap.size (W.heap.size + 1)) R' wn Wn (Pr.le_add _ _ _) hi.le ?_ hin hi.im.sh hi.im.kp
    refine thaw_rel hw hs hi.le (WRel.subSt hr fun a x => .inl x) (fun b b' e hb => ?_) hsR
    exact (hi.fz b' ⟨b.rb, hb, .inr ⟨b, e, rfl⟩⟩).2.1
  have hv : (ghostM w src 76).heap[w.heap.size + 1]? = some (.cells #[.chan (some w.heap.size)] 76 (0, 1)) := by
    have e1 : ((frz w src).alloc waste).heap.size = w.heap.size + 1 := by rw [size_push, frz_size]
    unfold ghostM
    rw [← e1, heap_push]
  have hB := each_main (ops4 := ops4) (u0 := .slice A n cap) (u2 := .nilFunc) (u3 := undef) (u6 := undef) (u7 := .chan (some w.heap.size)) (u8 := .tuple #[]) (u9 := .nilFunc) (u10 := undef) (u11 := undef) (u12 := undef) (u13 := undef) (u14 := undef) (u15 := undef) (u16 := undef) (u17 := undef) hC (.inr ⟨rfl, rfl⟩) hrs E hf hwait hI0 hv
  have hRle : R.le (R.add (w.heap.size + 1) (W.heap.size + 2)) := Pr.le_add _ _ _
  have hKle : K.le (K.add w.heap.size (W.heap.size + 1)) := Pr.le_add _ _ _
  refine hB (R.add (w.heap.size + 1) (W.heap.size + 2)) W7 ⟨35, #[.slice A' n cap, vf', .pointer (some ⟨W.heap.size, 0, none⟩), undef, .pointer (some ⟨W.heap.size + 2, 0, none⟩), .pointer (some ⟨W.heap.size + 3, 0, none⟩), undef, .chan (some (W.heap.size + 1)), .tuple #[], .func (.func 55) #[] #[.pointer (some ⟨W.heap.size + 3, 0, none⟩), .pointer (some ⟨W.heap.size + 2, 0, none⟩), .pointer (some ⟨W.heap.size, 0, none⟩)], undef, undef, undef, undef, undef, undef, undef, undef], [.inRegion ops4 [], .code (.seq (.seq rEM5 (.block 0 (.loop loopEM))) rEM9)], false⟩ (tauM R St src W0 W) hrel ⟨rfl, rfl, rfl, ?_, fun x hx => ?_⟩ ?_ ⟨⟨⟨⟨h7.os.trans hk.os, h7.tape.trans hk.tape, h7.output.trans hk.output, by have := h7.size; omega, h7.old, ?_⟩, ⟨?_, ?_, ?_⟩, rfl, by have := h7.size; omega, ?_, ?_⟩, hRle, ?_⟩, hl7⟩
  · have v0 : VR (SF fsF) (K.add w.heap.size (W.heap.size + 1)) (R.add (w.heap.size + 1) (W.heap.size + 2)) (.slice A n cap) (.slice A' n cap) := .slice (hA.mono hRle)
    have v1 := (hvf.mono hRle).monoK hKle
    have hj : ∀ x, Tt.Hid x → VR (SF fsF) (K.add w.heap.size (W.heap.size + 1)) (R.add (w.heap.size + 1) (W.heap.size + 2)) .nilFunc x := fun x h => .junk h
    have vu := vr_undef (S := SF fsF) (K := K.add w.heap.size (W.heap.size + 1)) (R := R.add (w.heap.size + 1) (W.heap.size + 2))
    exact (((((((((((((((((ArR.empty.push v0).push v1).push (hj _ (by exact True.intro))).push vu).push (.pointer (.some (.mk (.inr ⟨rfl, rfl⟩))))).push (hj _ (by exact True.intro))).push vu).push (.chan (.some (.inr (.inr ⟨rfl, rfl⟩))))).push (.tuple rfl fun i v v' h => by simp at h)).push (hj _ (by exact True.intro))).push vu).push vu).push vu).push vu).push vu).push vu).push vu).push vu
  · obtain rfl := List.mem_singleton.1 hx
    rfl
  · rintro a b (x | ⟨rfl, rfl⟩)
    · refine ⟨fun z => ?_, fun z => ⟨a, x, fun y => z (.inl y)⟩⟩
      rcases z with z | z
      · exact .inr (.inl ⟨a, x, z⟩)
      · have := (hw.lt a b (.inl x)).1; omega
    · exact ⟨fun _ => .inr (.inr rfl), fun z => absurd (.inr rfl) z⟩
  · rintro a b (x | ⟨rfl, rfl⟩) hb
    · exact hk.old a b x hb
    · omega
  · rintro l b hl hb (hx | hx)
    · exact hsh.old l b hl hb hx
    · have := onB_inj hl hx; omega
  · rintro a b (x | ⟨rfl, rfl⟩) l hl (hx | hx)
    · exact hsh.rel a b x l hl hx
    · have := onB_inj hl hx; have := hlt a b x; omega
    · exact hsh.new l _ hl (by omega) hx
    · have := onB_inj hl hx; omega
  · rintro l b hl hb (hx | hx)
    · exact hsh.new l b hl (by have := h7.size; omega) hx
    · have := onB_inj hl hx; have := h7.size; omega
  · rintro b ⟨a, x, _⟩
    have := hlt a b x; omega
  · rintro a b (x | ⟨rfl, rfl⟩)
    · have := hlt a b x; omega
    · omega
  · rintro b ⟨a, x, y⟩
    have := hlt a b x
    refine ⟨by have := h7.size; omega, h7.rel a b x, ?_, by omega⟩
    rintro ⟨a', x', y'⟩
    obtain rfl := hw.inj' a a' b (.inl x) (.inl x')
    exact y' y
set_option maxHeartbeats 4000000 in
set_option maxRecDepth 100000 in
theorem go_child {Fin : Goroutine → World → Prop} (hw : WRel (SF fsF) K R Try.prog.globals.size St w W) (hW0 : W0.heap.size ≤ W.heap.size) (hs : srcOk w A src) (hlo : ∀ b, src = some b → Try.prog.globals.size ≤ b.rb) (hslc : Slc w 0 w.heap.size 7 A n cap (recs rs)) (hn : n ≤ 1048576)
    (hA : OaR R A A') {W7 : World} (h7 : F4 R W0 W (.slice A' n cap) W7) (hl7 : WgLive wgl.tWg (W.heap.size + 3) W7) :
    BehE Try.prog wgl.tWg (W.heap.size + 3) (pipe (W.heap.size + 1) n (recVal rs)) Fin false (.usr (.sd 0)) 0 (tauC R St src W0 W) (born Try.prog { target := .fn (.func 55) #[.pointer (some ⟨W.heap.size + 3, 0, none⟩), .pointer (some ⟨W.heap.size + 2, 0, none⟩), .pointer (some ⟨W.heap.size, 0, none⟩)], args := #[] }) W7 := by
  have hrs : rs.length = n := hslc.recLen
  have hlt : ∀ a b, R a b → b < W.heap.size := fun a b x => (hw.lt a b (.inl x)).2
  obtain ⟨b', hR⟩ : ∃ b', ∀ b, src = some b → R b.rb b' := by
    cases src with
    | none => exact ⟨0, fun b e => by cases e⟩
    | some b =>
      obtain ⟨rfl, _, _⟩ := hs
      cases hA with
      | some x => cases x with | mk x => exact ⟨_, fun b e => by cases e; exact x⟩
  have hntm : (Try.f55).ntmps = 15 := rfl
  refine beh_silent rfl rfl (fun W₁ s => born_stepG (c := bodyEC) Try.func55 (by decide) rfl W₁) fun W₁ s => ?_
  obtain ⟨St', hrel, hst⟩ := child_rel (W4 := W7) (n := n) (cap := cap) (Tc := 76) (Ts := 25) hw hs hR hlo hA rfl rfl rfl h7.rel (by have := h7.size; omega) h7.b2 h7.b0
  have ht : Terra (tauC R St src W0 W) (relC w src b' W.heap.size (W.heap.size + 2)) St' := fun a b x => by
    refine ⟨fun _ => ?_, fun z => absurd (hst a b x) z⟩
    cases src with
    | none =>
      rcases x with (x | ⟨_, rfl⟩) | ⟨_, rfl⟩
      · exact x.elim
      · exact .inr (.inr (.inr rfl))
      · exact .inr (.inr (.inl rfl))
    | some b0 =>
      rcases x with ((x | ⟨_, rfl⟩) | ⟨_, rfl⟩) | ⟨_, rfl⟩
      · exact x.elim
      · exact .inr (.inr (.inr rfl))
      · exact .inr (.inl ⟨b0.rb, hR b0 rfl, .inr ⟨b0, rfl, rfl⟩⟩)
      · exact .inr (.inr (.inl rfl))
  have hB := each_child (Wg := W.heap.size + 3) (c := W.heap.size + 1) (Fin := Fin) (K := P0.add w.heap.size (W.heap.size + 1)) (St := St') (.inr ⟨rfl, rfl⟩) hrs hn (chw_ghost hs hslc)
  have hrel1 := Cx.Rel.suf (C := childCx (W.heap.size + 3) (W.heap.size + 1) n (recVal rs) Fin (P0.add w.heap.size (W.heap.size + 1)) St') hrel ht s
  have hgv : VR (SF fsF) (P0.add w.heap.size (W.heap.size + 1)) (relC w src b' W.heap.size (W.heap.size + 2)) (.pointer (some ⟨w.heap.size + 1, 0, none⟩)) (.pointer (some ⟨W.heap.size + 2, 0, none⟩)) := by
    refine .pointer (.some (.mk ?_))
    cases src with
    | none => exact .inl (.inr ⟨rfl, rfl⟩)
    | some b => exact .inl (.inl (.inr ⟨rfl, rfl⟩))
  have hgr : VR (SF fsF) (P0.add w.heap.size (W.heap.size + 1)) (relC w src b' W.heap.size (W.heap.size + 2)) (.pointer (some ⟨numC w src, 0, none⟩)) (.pointer (some ⟨W.heap.size, 0, none⟩)) := by
    refine .pointer (.some (.mk ?_))
    cases src with
    | none => exact .inr ⟨rfl, rfl⟩
    | some b => exact .inr ⟨rfl, rfl⟩
  have hj : ∀ x, Tt.Hid x → VR (SF fsF) (P0.add w.heap.size (W.heap.size + 1)) (relC w src b' W.heap.size (W.heap.size + 2)) .nilFunc x := fun x h => .junk h
  have vu := vr_undef (S := SF fsF) (K := P0.add w.heap.size (W.heap.size + 1)) (R := relC w src b' W.heap.size (W.heap.size + 2))
  have hC15 : (#[] ++ #[.pointer (some ⟨W.heap.size + 3, 0, none⟩), .pointer (some ⟨W.heap.size + 2, 0, none⟩), .pointer (some ⟨W.heap.size, 0, none⟩)]) ++ Array.replicate ((Try.f55).ntmps - (#[] ++ #[.pointer (some ⟨W.heap.size + 3, 0, none⟩), .pointer (some ⟨W.heap.size + 2, 0, none⟩), .pointer (some ⟨W.heap.size, 0, none⟩)] : Array Value).size) undef
      = (#[.pointer (some ⟨W.heap.size + 3, 0, none⟩), .pointer (some ⟨W.heap.size + 2, 0, none⟩), .pointer (some ⟨W.heap.size, 0, none⟩), undef, undef, undef, undef, undef, undef, undef, undef, undef, undef, undef, undef] : Array Value) := by rw [hntm]; rfl
  rw [hC15]
  have hlive1 := s.live hl7
  refine hB (relC w src b' W.heap.size (W.heap.size + 2)) W₁ ⟨55, #[.pointer (some ⟨W.heap.size + 3, 0, none⟩), .pointer (some ⟨W.heap.size + 2, 0, none⟩), .pointer (some ⟨W.heap.size, 0, none⟩), undef, undef, undef, undef, undef, undef, undef, undef, undef, undef, undef, undef], [.code bodyEC], false⟩ (tauC R St src W0 W) hrel1 ⟨rfl, rfl, rfl, ?_, fun x hx => ?_⟩ ht ⟨rfl, fun x => x.elim, by have := s.size; have := h7.size; omega, hlive1⟩
  · exact ((((((((((((((ArR.empty.push (hj _ (by exact True.intro))).push hgv).push hgr).push vu).push vu).push vu).push vu).push vu).push vu).push vu).push vu).push vu).push vu).push vu).push vu
  · obtain rfl := List.mem_singleton.1 hx
    rfl
end
end Go.Proofs.Ytjcpjijihajopaa
namespace Go.Proofs.Ytjcpjijihajopaa
open Go.RowKit Go.Mt Go.Conc Go.Tt Go.Conc.Lib Go.ConcR.Gen
set_option linter.unusedVariables false
section
variable {Post : Value → World → Prop} {Shun : Loc → Prop} {W0 : World} {St : Nat → Prop} {n cap : Nat} {rs : List RecD} {K R : Pr} {I : Nat → World → Prop} {cf : Frame} {cs : List Frame} {f : FuncId} {capt : Array Value} {A A' : Option Addr} {vf' : Value} {w W W4 : World} {src : Option Blk}
set_option maxHeartbeats 8000000 in
set_option maxRecDepth 100000 in
theorem each_phase (hw : WRel (SF fsF) K R Try.prog.globals.size St w W) (hsh : Sh W0.heap.size Shun R W) (hk : Kp W0 R St W) (hs : srcOk w A src) (hlo : ∀ b, src = some b → Try.prog.globals.size ≤ b.rb) (hslc : Slc w 0 w.heap.size 7 A n cap (recs rs)) (hn : n ≤ 1048576)
    (hA : OaR R A A') (hvf : VR (SF fsF) K R (.func (.func f) #[] capt) vf') (hst : St4 W W4 (.slice A' n cap)) (E : EachI f capt rs I) (hf : gsF f = true) (hI0 : I 0 (ghostM w src 76))
    (hcont : ∀ (K' R' : Pr) (wn Wn : World), K.le K' → R.le R' → WRel (SF fsF) K' R' Try.prog.globals.size St (thaw wn src) Wn → I n wn → Sh W0.heap.size (shunG Shun (W.heap.size + 3)) R' Wn → Kp W0 R' St Wn → J Try.prog Post (shunG Shun (W.heap.size + 3)) Wn.heap.size (G (cf.finish (.tuple #[])) cs) Wn) :
    J Try.prog Post Shun (W.heap.size + 3) (G ((Conc.base 35).at ⟨#[.slice A' n cap, vf', .pointer (some ⟨W.heap.size, 0, none⟩), undef, .pointer (some ⟨W.heap.size + 2, 0, none⟩), .pointer (some ⟨W.heap.size + 3, 0, none⟩), undef, .chan (some (W.heap.size + 1)), undef, undef, undef, undef, undef, undef, undef, undef, undef, undef], []⟩ [.code rEM3, .code (.seq rEM4 (.seq (.seq rEM5 (.block 0 (.loop loopEM))) rEM9))]) (cf :: cs)) W4 := by
  have hrs : rs.length = n := hslc.recLen
  have hlt : ∀ a b, R a b → b < W.heap.size := fun a b x => (hw.lt a b (.inl x)).2
  have hltK : ∀ a b, (R.or K) a b → b < W.heap.size := fun a b x => (hw.lt a b x).2
  have hsR : ∀ b, src = some b → ∃ b', R b.rb b' := fun b e => by
    subst e
    obtain ⟨rfl, _, _⟩ := hs
    cases hA with
    | some x => cases x with | mk x => exact ⟨_, x⟩
  have hW0 : W0.heap.size ≤ W.heap.size := hk.size
  have hstill : ∀ b, (∃ a, R a b ∧ ¬ StF St src a) → W0.heap.size ≤ b := fun b ⟨a, h1, h2⟩ => by
    rcases Nat.lt_or_ge b W0.heap.size with h | h
    · exact absurd (.inl (hk.old a b h1 h)) h2
    · exact h
  refine J.phase (pipe_ok (W.heap.size + 1) n (recVal rs)) (ty := wgl.tWg) (Wg := W.heap.size + 3) (l := .m0) (τ := tau0 R St src W0 W) ?hb hst.b3 ⟨Nat.le_refl _, by rw [hst.size]; omega⟩ ?bnd rfl (.a .m0 (.inl rfl) rfl fun i hi => by simp [hi])
  case bnd =>
    rintro b ((⟨a, h1, h2⟩ | rfl | rfl | rfl) | (h | ⟨a, h1, h2⟩) | h)
    · have := hlt a b h1
      exact ⟨by rw [hst.size]; omega, by omega, hsh.rel a b h1⟩
    · exact ⟨by rw [hst.size]; omega, by omega, fun l hl => hsh.new l _ hl (by omega)⟩
    · exact ⟨by rw [hst.size]; omega, by omega, fun l hl => hsh.new l _ hl (by omega)⟩
    · exact ⟨by rw [hst.size]; omega, by omega, fun l hl => hsh.new l _ hl (by omega)⟩
    · exact ⟨by rw [hst.size]; omega, by omega, fun l hl => hsh.old l b hl h⟩
    · have := hlt a b h1
      exact ⟨by rw [hst.size]; omega, by omega, hsh.rel a b h1⟩
    · exact h.elim
  case hb =>
    have hF0 : F4 R W0 W (.slice A' n cap) W4 := ⟨fun a b x => hst.keep b (hlt a b x), hst.b0, hst.b1, hst.b2, hst.os, hst.tape, hst.output, fun b hb => (hst.keep b (by omega)).trans (hk.block b hb), by rw [hst.size]; exact Nat.le_refl _⟩
    have kf := f4_keep (R := R) (St := St) (src := src) (v := .slice A' n cap) hlt hW0
    have hgo : ∀ W5, F4 R W0 W (.slice A' n cap) W5 → WgLive wgl.tWg (W.heap.size + 3) W5 → BehE Try.prog wgl.tWg (W.heap.size + 3) (pipe (W.heap.size + 1) n (recVal rs)) (finJ Post Shun (W.heap.size + 3)) true (.usr .m1) 0 (tau0 R St src W0 W) (G ((Conc.base 35).at ⟨#[.slice A' n cap, vf', .pointer (some ⟨W.heap.size, 0, none⟩), undef, .pointer (some ⟨W.heap.size + 2, 0, none⟩), .pointer (some ⟨W.heap.size + 3, 0, none⟩), undef, .chan (some (W.heap.size + 1)), .tuple #[], undef, undef, undef, undef, undef, undef, undef, undef, undef], []⟩ [.inRegion ops3 [], .code (.seq rEM4 (.seq (.seq rEM5 (.block 0 (.loop loopEM))) rEM9))]) (cf :: cs)) W5 := by
      intro W5 h5 hl5
      have kp := fun W' W'' (st : Suf wgl.tWg (W.heap.size + 3) (tau0 R St src W0 W) W' W'') (x : F4 R W0 W (.slice A' n cap) W' ∧ WgLive wgl.tWg (W.heap.size + 3) W') => (⟨kf.suf _ _ st x.1, st.live x.2⟩ : F4 R W0 W (.slice A' n cap) W'' ∧ WgLive wgl.tWg (W.heap.size + 3) W'')
      refine beh_silent rfl rfl (fun W₁ s => stepG_region_end) fun W₁ s1 => ?_
      refine beh_silent rfl rfl (fun W₁ s => stepG_seq) fun W₂ s2 => ?_
      refine beh_silent rfl rfl (fun W₁ s => by rw [rEM4_eq]; exact stepG_region) fun W₃ s3 => ?_
      rw [ops4_range]
      have h3 := kp _ _ s3 (kp _ _ s2 (kp _ _ s1 ⟨h5, hl5⟩))
      refine beh_silent rfl rfl (g' := G ((Conc.base 35).at ⟨#[.slice A' n cap, vf', .pointer (some ⟨W.heap.size, 0, none⟩), undef, .pointer (some ⟨W.heap.size + 2, 0, none⟩), .pointer (some ⟨W.heap.size + 3, 0, none⟩), undef, .chan (some (W.heap.size + 1)), .tuple #[], .func (.func 55) #[] #[.pointer (some ⟨W.heap.size + 3, 0, none⟩), .pointer (some ⟨W.heap.size + 2, 0, none⟩), .pointer (some ⟨W.heap.size, 0, none⟩)], undef, undef, undef, undef, undef, undef, undef, undef], []⟩ [.inRegion ops4 [1], .code (.seq (.seq rEM5 (.block 0 (.loop loopEM))) rEM9)]) (cf :: cs)) (fun W₄ s4 => ?_) fun W₄ s4 => ?_
      · have x1 : (execOp (Go.Act.mk #[.slice A' n cap, vf', .pointer (some ⟨W.heap.size, 0, none⟩), undef, .pointer (some ⟨W.heap.size + 2, 0, none⟩), .pointer (some ⟨W.heap.size + 3, 0, none⟩), undef, .chan (some (W.heap.size + 1)), .tuple #[], undef, undef, undef, undef, undef, undef, undef, undef, undef] []).eval oper40).run Try.prog W₄ = .ok (.value (.func (.func 55) #[] #[.pointer (some ⟨W.heap.size + 3, 0, none⟩), .pointer (some ⟨W.heap.size + 2, 0, none⟩), .pointer (some ⟨W.heap.size, 0, none⟩)])) W₄ := by simp [execOp, go_sem, Go.Act.eval]
        have x2 : (execOp (Go.Act.mk #[.slice A' n cap, vf', .pointer (some ⟨W.heap.size, 0, none⟩), undef, .pointer (some ⟨W.heap.size + 2, 0, none⟩), .pointer (some ⟨W.heap.size + 3, 0, none⟩), undef, .chan (some (W.heap.size + 1)), .tuple #[], undef, undef, undef, undef, undef, undef, undef, undef, undef] []).eval oper40).events Try.prog W₄ #[] = #[] := by simp [execOp, go_sem, Go.Act.eval]
        have hstp := stepG_value (main := true) (b := Conc.base 35) (a := ⟨#[.slice A' n cap, vf', .pointer (some ⟨W.heap.size, 0, none⟩), undef, .pointer (some ⟨W.heap.size + 2, 0, none⟩), .pointer (some ⟨W.heap.size + 3, 0, none⟩), undef, .chan (some (W.heap.size + 1)), .tuple #[], undef, undef, undef, undef, undef, undef, undef, undef, undef], []⟩) (rest := [1]) (cs := cf :: cs) (k := [.code (.seq (.seq rEM5 (.block 0 (.loop loopEM))) rEM9)]) ops4_0 rfl (by decide) x1
        rw [hstp]
        unfold listed
        rw [x2, Conc.seen_none]
        rfl
      refine BehE.usr rfl ?_
      unfold AtUsr
      show (_ : Nat) = 0 ∧ _
      refine ⟨rfl, fun W₇ s7 => ?_⟩
      have h7 := kp _ _ s7 (kp _ _ s4 h3)
      have hm := go_main hw hsh hk hs hslc hA hvf E hf hI0 hcont h7.1 h7.2
      have hc := go_child (Fin := finJ Post Shun (W.heap.size + 3)) (St := St) hw hW0 hs hlo hslc hn hA h7.1 h7.2
      refine ⟨_, _, tauM R St src W0 W, tauC R St src W0 W, ?_, rfl, rfl, ?_, ?_, ?_, ?_, ?_, ?_, hm, hc⟩
      · have x1 : (execOp (Go.Act.mk #[.slice A' n cap, vf', .pointer (some ⟨W.heap.size, 0, none⟩), undef, .pointer (some ⟨W.heap.size + 2, 0, none⟩), .pointer (some ⟨W.heap.size + 3, 0, none⟩), undef, .chan (some (W.heap.size + 1)), .tuple #[], .func (.func 55) #[] #[.pointer (some ⟨W.heap.size + 3, 0, none⟩), .pointer (some ⟨W.heap.size + 2, 0, none⟩), .pointer (some ⟨W.heap.size, 0, none⟩)], undef, undef, undef, undef, undef, undef, undef, undef] []).eval oper41).run Try.prog W₇ = .ok (.spawn { target := .fn (.func 55) #[.pointer (some ⟨W.heap.size + 3, 0, none⟩), .pointer (some ⟨W.heap.size + 2, 0, none⟩), .pointer (some ⟨W.heap.size, 0, none⟩)], args := #[] }) W₇ := by simp [execOp, go_sem, Go.Act.eval, resolve, Deferred.ofValue]
        have x2 : (execOp (Go.Act.mk #[.slice A' n cap, vf', .pointer (some ⟨W.heap.size, 0, none⟩), undef, .pointer (some ⟨W.heap.size + 2, 0, none⟩), .pointer (some ⟨W.heap.size + 3, 0, none⟩), undef, .chan (some (W.heap.size + 1)), .tuple #[], .func (.func 55) #[] #[.pointer (some ⟨W.heap.size + 3, 0, none⟩), .pointer (some ⟨W.heap.size + 2, 0, none⟩), .pointer (some ⟨W.heap.size, 0, none⟩)], undef, undef, undef, undef, undef, undef, undef, undef] []).eval oper41).events Try.prog W₇ #[] = #[] := by simp [execOp, go_sem, Go.Act.eval, resolve, Deferred.ofValue]
        have hstp := stepG_spawn (main := true) (b := Conc.base 35) (a := ⟨#[.slice A' n cap, vf', .pointer (some ⟨W.heap.size, 0, none⟩), undef, .pointer (some ⟨W.heap.size + 2, 0, none⟩), .pointer (some ⟨W.heap.size + 3, 0, none⟩), undef, .chan (some (W.heap.size + 1)), .tuple #[], .func (.func 55) #[] #[.pointer (some ⟨W.heap.size + 3, 0, none⟩), .pointer (some ⟨W.heap.size + 2, 0, none⟩), .pointer (some ⟨W.heap.size, 0, none⟩)], undef, undef, undef, undef, undef, undef, undef, undef], []⟩) (rest := []) (cs := cf :: cs) (k := [.code (.seq (.seq rEM5 (.block 0 (.loop loopEM))) rEM9)]) ops4_1 rfl (by decide) x1 rfl
        rw [hstp]
        unfold listed
        rw [x2, Conc.seen_none]
        rfl
      · rintro b (x | x)
        · exact .inl x
        · exact x.elim
      · rintro b ((x | x | x) | (x | x | x | x))
        · exact .inl (.inl x)
        · exact .inl (.inr x)
        · exact .inr (.inr (.inr (.inr x)))
        · exact .inl (.inl x)
        · exact .inl (.inr x)
        · exact .inr (.inr (.inl x))
        · exact .inr (.inr (.inr (.inr x)))
      · rintro b (x | x)
        · exact x.elim
        · exact .inr (.inl (.inr (.inr (.inl x))))
      · rintro b ⟨a, x, y⟩
        have hb := hlt a b x
        have hb2 := hstill b ⟨a, x, y⟩
        refine ⟨id, ?_, ?_⟩
        · rintro (z | ⟨a', x', y'⟩ | z | z)
          · omega
          · obtain rfl := hw.inj' a a' b (.inl x) (.inl x')
            exact y y'
          · omega
          · omega
        · intro z
          have z' : b = W.heap.size + 1 := z
          omega
      · intro b x
        exact x.elim
      · intro a ha
        obtain rfl : a = W.heap.size + 1 := List.mem_singleton.1 ha
        refine ⟨.inr (.inr (.inl rfl)), h7.1.b1, ?_, ?_, id, ?_⟩
        · rintro ⟨a, x, _⟩
          have := hlt a _ x; omega
        · rintro (z | ⟨a, x, _⟩ | z)
          · omega
          · have := hlt a _ x; omega
          · omega
        · rintro (z | ⟨a, x, _⟩ | z | z)
          · omega
          · have := hlt a _ x; omega
          · omega
          · omega
    refine beh_silent rfl rfl (fun W₁ s => by rw [rEM3_eq]; exact stepG_region) fun W₁ s => ?_
    rw [ops3_range]
    refine beh_silent rfl rfl (g' := G ((Conc.base wgl.add).at ⟨#[.pointer (some ⟨W.heap.size + 3, 0, none⟩), .int .i64 1, undef, undef, undef, undef, undef, undef, undef, undef, undef, undef, undef, undef, undef, undef, undef, undef, undef, undef, undef, undef, undef, undef, undef, undef, undef, undef, undef, undef, undef, undef, undef, undef, undef, undef, undef, undef, undef, undef, undef, undef, undef, undef, undef, undef, undef, undef, undef, undef, undef, undef, undef, undef, undef, undef, undef, undef, undef, undef, undef, undef, undef, undef, undef, undef, undef, undef, undef, undef, undef, undef, undef, undef, undef, undef, undef, undef, undef, undef, undef, undef, undef, undef, undef, undef, undef, undef, undef, undef, undef, undef, undef, undef, undef, undef, undef, undef, undef, undef, undef, undef, undef, undef, undef, undef, undef, undef, undef, undef, undef, undef, undef, undef, undef, undef, undef], []⟩ [.code (body_add wgl)]) ((Conc.base 35).at ⟨#[.slice A' n cap, vf', .pointer (some ⟨W.heap.size, 0, none⟩), undef, .pointer (some ⟨W.heap.size + 2, 0, none⟩), .pointer (some ⟨W.heap.size + 3, 0, none⟩), undef, .chan (some (W.heap.size + 1)), undef, undef, undef, undef, undef, undef, undef, undef, undef, undef], []⟩ [.inRegion ops3 [0], .code (.seq rEM4 (.seq (.seq rEM5 (.block 0 (.loop loopEM))) rEM9))] :: cf :: cs)) (fun W₂ s2 => ?_) fun W₂ s2 => ?_
    · obtain ⟨x1, x2⟩ := exec_call (p := Try.prog) (o := oper3) rfl (ρ := (Go.Act.mk #[.slice A' n cap, vf', .pointer (some ⟨W.heap.size, 0, none⟩), undef, .pointer (some ⟨W.heap.size + 2, 0, none⟩), .pointer (some ⟨W.heap.size + 3, 0, none⟩), undef, .chan (some (W.heap.size + 1)), undef, undef, undef, undef, undef, undef, undef, undef, undef, undef] []).eval) (fun g => rfl) wgLib.f_add rfl rfl W₂
      have hargs : (#[.tmp 5, .const (.int .i64 1)] : Array Operand).map (Go.Act.mk #[.slice A' n cap, vf', .pointer (some ⟨W.heap.size, 0, none⟩), undef, .pointer (some ⟨W.heap.size + 2, 0, none⟩), .pointer (some ⟨W.heap.size + 3, 0, none⟩), undef, .chan (some (W.heap.size + 1)), undef, undef, undef, undef, undef, undef, undef, undef, undef, undef] []).eval = #[.pointer (some ⟨W.heap.size + 3, 0, none⟩), .int .i64 1] := by simp [Go.Act.eval]
      rw [hargs] at x1
      have hstp := stepG_enter (main := true) (b := Conc.base 35) (a := ⟨#[.slice A' n cap, vf', .pointer (some ⟨W.heap.size, 0, none⟩), undef, .pointer (some ⟨W.heap.size + 2, 0, none⟩), .pointer (some ⟨W.heap.size + 3, 0, none⟩), undef, .chan (some (W.heap.size + 1)), undef, undef, undef, undef, undef, undef, undef, undef, undef, undef], []⟩) (rest := []) (cs := cf :: cs) (k := [.code (.seq rEM4 (.seq (.seq rEM5 (.block 0 (.loop loopEM))) rEM9))]) ops3_at rfl (by decide) x1
      rw [hstp]
      unfold listed
      rw [x2, Conc.seen_none, ← add_ent]
    · have hput : Go.Act.put ⟨#[.slice A' n cap, vf', .pointer (some ⟨W.heap.size, 0, none⟩), undef, .pointer (some ⟨W.heap.size + 2, 0, none⟩), .pointer (some ⟨W.heap.size + 3, 0, none⟩), undef, .chan (some (W.heap.size + 1)), undef, undef, undef, undef, undef, undef, undef, undef, undef, undef], []⟩ ((ops3[0]?).bind (·.dst)) (.tuple #[]) = ⟨#[.slice A' n cap, vf', .pointer (some ⟨W.heap.size, 0, none⟩), undef, .pointer (some ⟨W.heap.size + 2, 0, none⟩), .pointer (some ⟨W.heap.size + 3, 0, none⟩), undef, .chan (some (W.heap.size + 1)), .tuple #[], undef, undef, undef, undef, undef, undef, undef, undef, undef], []⟩ := by rw [ops3_at]; rfl
      rw [← hput] at hgo
      exact addW (A := pipe (W.heap.size + 1) n (recVal rs)) (b₀ := Conc.base 35) (a₀ := ⟨#[.slice A' n cap, vf', .pointer (some ⟨W.heap.size, 0, none⟩), undef, .pointer (some ⟨W.heap.size + 2, 0, none⟩), .pointer (some ⟨W.heap.size + 3, 0, none⟩), undef, .chan (some (W.heap.size + 1)), undef, undef, undef, undef, undef, undef, undef, undef, undef, undef], []⟩) (ops₀ := ops3) (i₀ := 0) (rest₀ := []) (k₀ := [.code (.seq rEM4 (.seq (.seq rEM5 (.block 0 (.loop loopEM))) rEM9))]) (cs := cf :: cs) (Fin := finJ Post Shun (W.heap.size + 3)) (l := PpL.m0) (nx := PpL.m1) (Wg := W.heap.size + 3) wgLib rfl kf hgo W₂ ⟨kf.suf _ _ s2 (kf.suf _ _ s hF0), s2.live (s.live ⟨0, 0, hst.b3⟩)⟩
end
end Go.Proofs.Ytjcpjijihajopaa
namespace Go.Proofs.Ytjcpjijihajopaa
open Go.RowKit Go.Mt Go.Conc Go.Tt Go.Conc.Lib Go.ConcR.Gen
set_option linter.unusedVariables false
abbrev JE (St : Nat → Prop) (W0 : World) (Post : Value → World → Prop) (m : Fm) (ms : List Fm) (w : World) : Prop := JL Try.prog (inL olL) (inL alL) fsF St W0 Post m ms w
theorem ar_two {S : FuncId → Prop} {K R : Pr} {a b : Value} {xs' : Array Value} (h : ArR S K R #[a, b] xs') : ∃ a' b', xs' = #[a', b'] ∧ VR S K R a a' ∧ VR S K R b b' := by
  obtain ⟨l⟩ := xs'
  obtain ⟨h1, h2⟩ := h
  simp only [List.size_toArray, List.length_cons, List.length_nil] at h1
  match l, h1 with
  | [x, y], _ => exact ⟨x, y, rfl, h2 0 a x rfl rfl, h2 1 b y rfl rfl⟩
section
variable {St : Nat → Prop} {W0 : World} {Post : Value → World → Prop}
set_option maxRecDepth 100000 in
theorem jo_each {m : Fm} {ms : List Fm} {w : World} {ops : Array Oper} {i : Nat} {rest : List Nat} {k : List Item} {o : Oper} {args : Array Operand} {ats : Array TypeId} {A : Option Addr} {n cap : Nat} {f : FuncId} {capt : Array Value} {rs : List RecD} {I : Nat → World → Prop} {src : Option Blk}
    (hr : m.ret = false) (htd : m.todo = .inRegion ops (i :: rest) :: k) (ho : ops[i]? = some o) (hwt : Region.wanted o (yielded ops m.tmps) = true) (hop : o.op = .call ⟨.value (.func 35), args, ats⟩) (hargs : args.all (okX fsF) = true)
    (hv : args.map m.eval = #[.slice A n cap, .func (.func f) #[] capt]) (hs : srcOk w A src) (hlo : ∀ b, src = some b → Try.prog.globals.size ≤ b.rb) (hslc : Slc w 0 w.heap.size 7 A n cap (recs rs)) (hn : n ≤ 1048576) (E : EachI f capt rs I) (hf : gsF f = true) (hI0 : I 0 (ghostM w src 76))
    (hJ : ∀ wn, I n wn → JE St W0 Post (m.fin ops i rest k (.tuple #[])) ms (thaw wn src)) : JE St W0 Post m ms w := by
  refine JO.callF lvF hr htd ho hwt hop rfl hargs fun K R W m' ms' Shun xs' hw hm hms hsh hk hxs => ?_
  rw [hv] at hxs
  obtain ⟨a', vf', rfl, ha, hvf⟩ := ar_two hxs
  cases ha with
  | slice hA =>
    rename_i A'
    have htd' : m'.todo = .inRegion ops (i :: rest) :: k := hm.todo.symm.trans htd
    refine each_start hsh.new fun W4 hst => ?_
    refine each_phase (R := R) (W0 := W0) (St := St) (src := src) (cf := m'.fr) (cs := ms'.map Fm.fr) hw hsh hk hs hlo hslc hn hA hvf hst E hf hI0 fun K' R' wn Wn hK hR hrel hin hsh' hk' => ?_
    rw [finish_fr htd']
    exact hJ wn hin K' R' Wn _ ms' _ hrel ((FmR.monoK hK (hm.mono hR)).fin htd (.tuple rfl fun i v v' h => by simp at h)) (MsR.monoK hK (hms.mono hR)) hsh' hk'
end
end Go.Proofs.Ytjcpjijihajopaa
namespace Go.Proofs.Ytjcpjijihajopaa
open Go.RowKit Go.Maps
set_option linter.unusedVariables false
theorem keyed3 : Keyed Try.prog 3 := int_keyed Try.underlying3
theorem zero3 (w : World) : (zeroValue 3).run Try.prog w = .ok (.int .i64 0) w := by kernel_rfl
abbrev SumsM (w : World) (gm k : Nat) (D : DataW Unit) : Prop := w.ownsMap Try.prog 3 (plainElem (H := Unit) Try.prog 3) gm k D
theorem wf_small {n : Int} (h0 : -1000000 ≤ n) (h1 : n ≤ 1000000) : (Lit.int .i64 n).wf = true := by
  simp only [Lit.wf, IntKind.min, IntKind.max, IntKind.signed, IntKind.bits, Bool.and_eq_true, decide_eq_true_eq, if_true]
  omega
theorem sums_look {W : World} {gm k : Nat} {D : DataW Unit} {l c : Int} (h : SumsM W gm k D) (hl : (Lit.int .i64 l).wf = true) (hc : D.atKey (.int .i64 l) (.lit (.int .i64 0)) = .lit (.int .i64 c)) :
    (Instr.lookup 59 (.map (some gm)) (.int .i64 l) false).run Try.prog W = .ok (.int .i64 c) W := by
  obtain ⟨c', hr, ha, _⟩ := h.lookup_int keyed3 Try.underlying59 Try.underlying3 (zero3 W) (keyOf_int_mk Try.underlying3 hl)
  rw [hc] at ha
  simp only [DataW.lit.injEq, Lit.int.injEq, true_and] at ha
  rw [hr, ha]
theorem sums_upd {W : World} {gm k : Nat} {D : DataW Unit} {l v : Int} (h : SumsM W gm k D) (hk : k ≤ 1048576) (hl : (Lit.int .i64 l).wf = true) (hv : (Lit.int .i64 v).wf = true) :
    ∃ W', (Instr.mapUpdate 59 (.map (some gm)) (.int .i64 l) (.int .i64 v)).run Try.prog W = .ok () W' ∧ SumsM W' gm (k + 1) (D.put (.int .i64 l) (.lit (.int .i64 v))) ∧ W.grownBy W' (some gm) :=
  h.update keyed3 Try.underlying59 (by unfold maxLen; omega) (keyOf_int_mk Try.underlying3 hl) (plainElem_int Try.underlying3 hv)
theorem grown_below {W W' : World} (h : Below W.heap.size W W') : W.grownBy W' none := ⟨h.os, h.tape, h.output, h.size, fun i hi _ => h.block i hi⟩
theorem sums_below {W W' : World} {gm k : Nat} {D : DataW Unit} (h : SumsM W gm k D) (hb : Below W.heap.size W W') : SumsM W' gm k D := h.kept (grown_below hb) (by simp)
section
variable {w W W' : World} {a0 a1 a2 a3 a4 a5 a6 a7 a8 : Addr} {v0 v1 v2 v3 v4 v5 v6 v7 v8 : Value} {gm : Nat}
theorem held9_below (hb : Below W.heap.size W W') (h : W.cell? a0 = some v0 ∧ W.cell? a1 = some v1 ∧ W.cell? a2 = some v2 ∧ W.cell? a3 = some v3 ∧ W.cell? a4 = some v4 ∧ W.cell? a5 = some v5 ∧ W.cell? a6 = some v6 ∧ W.cell? a7 = some v7 ∧ W.cell? a8 = some v8) : W'.cell? a0 = some v0 ∧ W'.cell? a1 = some v1 ∧ W'.cell? a2 = some v2 ∧ W'.cell? a3 = some v3 ∧ W'.cell? a4 = some v4 ∧ W'.cell? a5 = some v5 ∧ W'.cell? a6 = some v6 ∧ W'.cell? a7 = some v7 ∧ W'.cell? a8 = some v8 := by
  have e : ∀ {a : Addr} {v : Value}, W.cell? a = some v → W'.cell? a = some v := fun {a v} hv => (World.cell?_of_block (hb.block _ (World.block_lt_of_cell? W _ hv))).trans hv
  obtain ⟨h0, h1, h2, h3, h4, h5, h6, h7, h8⟩ := h
  exact ⟨e h0, e h1, e h2, e h3, e h4, e h5, e h6, e h7, e h8⟩
theorem held9_upd (hg : W.grownBy W' (some gm)) (n0 : a0.block ≠ gm) (n1 : a1.block ≠ gm) (n2 : a2.block ≠ gm) (n3 : a3.block ≠ gm) (n4 : a4.block ≠ gm) (n5 : a5.block ≠ gm) (n6 : a6.block ≠ gm) (n7 : a7.block ≠ gm) (n8 : a8.block ≠ gm) (h : W.cell? a0 = some v0 ∧ W.cell? a1 = some v1 ∧ W.cell? a2 = some v2 ∧ W.cell? a3 = some v3 ∧ W.cell? a4 = some v4 ∧ W.cell? a5 = some v5 ∧ W.cell? a6 = some v6 ∧ W.cell? a7 = some v7 ∧ W.cell? a8 = some v8) : W'.cell? a0 = some v0 ∧ W'.cell? a1 = some v1 ∧ W'.cell? a2 = some v2 ∧ W'.cell? a3 = some v3 ∧ W'.cell? a4 = some v4 ∧ W'.cell? a5 = some v5 ∧ W'.cell? a6 = some v6 ∧ W'.cell? a7 = some v7 ∧ W'.cell? a8 = some v8 := by
  have e : ∀ {a : Addr} {v : Value}, a.block ≠ gm → W.cell? a = some v → W'.cell? a = some v := fun {a v} hn hv => (World.cell?_of_block (hg.block _ (World.block_lt_of_cell? W _ hv) (fun e => hn (by injection e)))).trans hv
  obtain ⟨h0, h1, h2, h3, h4, h5, h6, h7, h8⟩ := h
  exact ⟨e n0 h0, e n1 h1, e n2 h2, e n3 h3, e n4 h4, e n5 h5, e n6 h6, e n7 h7, e n8 h8⟩
end
set_option maxHeartbeats 4000000 in
set_option maxRecDepth 20000 in
theorem busy1_any (d : RecD) (q c : Int) (g5 g7 gm k : Nat) (D : DataW Unit) (w : World) (h5 : w.heap[g5]? = some (.cells #[.int .i64 q] 3)) (h7 : w.heap[g7]? = some (.cells #[.map (some gm)] 59)) (hm : SumsM w gm k D) (hk : k ≤ 1048576) (n5 : g5 ≠ gm) (n7 : g7 ≠ gm)
    (hd : -1000000 ≤ d.l ∧ d.l ≤ 1000000) (hc : D.atKey (.int .i64 d.l) (.lit (.int .i64 0)) = .lit (.int .i64 c)) (hb : -100000 ≤ c ∧ c ≤ 900000 ∧ 0 ≤ endF q d - d.f ∧ endF q d - d.f ≤ 3600) :
    Calls Try.prog 36 #[.agg #[.int .i64 d.c, .int .i64 d.l, .int .i64 d.o, .int .i64 d.f, .int .i64 d.h, .int .i64 d.t, .string d.e], .pointer (some ⟨g7, 0, none⟩), .pointer (some ⟨g5, 0, none⟩)] w fun e w' => e = .returned (.tuple #[]) ∧ SumsM w' gm (k + 1) (D.put (.int .i64 d.l) (.lit (.int .i64 (c + (endF q d - d.f))))) ∧ w.grownBy w' (some gm) := by
  have hlw := wf_small hd.1 hd.2
  have hvw : (Lit.int .i64 (c + (endF q d - d.f))).wf = true := wf_small (by omega) (by omega)
  have hlt := hm.lt
  obtain ⟨E, hE⟩ : ∃ E, E = endF q d := ⟨_, rfl⟩
  have HE := Lib.hid hE
  rw [← hE] at hvw hb ⊢
  clear hE
  have W1 := (IntWalk.i64_left _).trans (IntWalk.wrap64_in (E - d.f) (by omega))
  have W2 := (IntWalk.i64_left _).trans (IntWalk.wrap64_in (c + (E - d.f)) (by omega))
  go_enter Try.func36, Try.ntmps36
  go_wp2_with fail
  obtain ⟨o, ho⟩ : ∃ o : Obj, o = .cells #[.int .i64 d.c, .int .i64 d.l, .int .i64 d.o, .int .i64 d.f, .int .i64 d.h, .int .i64 d.t, .string d.e] 50 := ⟨_, rfl⟩
  rw [← ho]
  have hr : (w.alloc o).heap[w.heap.size]? = some (.cells #[.int .i64 d.c, .int .i64 d.l, .int .i64 d.o, .int .i64 d.f, .int .i64 d.h, .int .i64 d.t, .string d.e] 50) := by rw [← ho]; exact heap_alloc_new _ _
  have hm1 : SumsM (w.alloc o) gm k D := hm.alloc o
  have h51 := blk_alloc h5 o
  have h71 := blk_alloc h7 o
  have nr : w.heap.size ≠ gm := by omega
  have G0 : w.grownBy (w.alloc o) (some gm) := World.grownBy_alloc w o _
  clear ho hm h5 h7 hlt
  generalize w.alloc o = W at *
  generalize w.heap.size = r at *
  have S0 : W.cell? ⟨r, 0, none⟩ = some (.int .i64 d.c) ∧ W.cell? ⟨r, 1, none⟩ = some (.int .i64 d.l) ∧ W.cell? ⟨r, 2, none⟩ = some (.int .i64 d.o) ∧ W.cell? ⟨r, 3, none⟩ = some (.int .i64 d.f) ∧ W.cell? ⟨r, 4, none⟩ = some (.int .i64 d.h) ∧ W.cell? ⟨r, 5, none⟩ = some (.int .i64 d.t) ∧ W.cell? ⟨r, 6, none⟩ = some (.string d.e) ∧ W.cell? ⟨g5, 0, none⟩ = some (.int .i64 q) ∧ W.cell? ⟨g7, 0, none⟩ = some (.map (some gm)) := ⟨blk_cell hr 0, blk_cell hr 1, blk_cell hr 2, blk_cell hr 3, blk_cell hr 4, blk_cell hr 5, blk_cell hr 6, blk_cell h51 0, blk_cell h71 0⟩
  have hlk0 := sums_look hm1.drew hlw hc
  clear h51 h71 hr
  go_region_held3 (fun W => W.cell? ⟨r, 0, none⟩ = some (.int .i64 d.c) ∧ W.cell? ⟨r, 1, none⟩ = some (.int .i64 d.l) ∧ W.cell? ⟨r, 2, none⟩ = some (.int .i64 d.o) ∧ W.cell? ⟨r, 3, none⟩ = some (.int .i64 d.f) ∧ W.cell? ⟨r, 4, none⟩ = some (.int .i64 d.h) ∧ W.cell? ⟨r, 5, none⟩ = some (.int .i64 d.t) ∧ W.cell? ⟨r, 6, none⟩ = some (.string d.e) ∧ W.cell? ⟨g5, 0, none⟩ = some (.int .i64 q) ∧ W.cell? ⟨g7, 0, none⟩ = some (.map (some gm)))
    (first | exact S0 | assumption | exact held9_below (by assumption) (by assumption) | exact held9_upd (gm := gm) (by assumption) nr nr nr nr nr nr nr n5 n7 (by assumption))
    (first | (go_at_call 37; refine (impl_endAt d q _).mono ?_; rintro x w2 ⟨rfl, b2⟩; rw [← HE.out]; have hm2 := sums_below hm1.drew b2; have hlk2 := sums_look hm2 hlw hc; obtain ⟨w3, hup, hm3, hg3⟩ := sums_upd hm2 hk hlw hvw))
  all_goals have G2 : W.grownBy w2 (some gm) := ⟨b2.os, b2.tape, b2.output, b2.size, fun i hi _ => b2.block i hi⟩
  all_goals exact bodyPost_end (v := .tuple #[]) (results_none rfl _ _ _) rfl ⟨rfl, hm3, (G0.trans G2).trans hg3⟩
end Go.Proofs.Ytjcpjijihajopaa
namespace Go.Proofs.Ytjcpjijihajopaa
open Go.RowKit Go.Mt Go.Conc Go.Tt Go.Maps
set_option linter.unusedVariables false
noncomputable def bodyBM : Go.Code := (Try.f12.body).getD .skip
noncomputable def rBM0 : Go.Code := match bodyBM with | .seq a _ => a | _ => .skip
noncomputable def rBM1 : Go.Code := match bodyBM with | .seq _ (.seq (.seq a _) _) => a | _ => .skip
noncomputable def rBM2 : Go.Code := match bodyBM with | .seq _ (.seq (.seq _ (.cond _ (.seq a _) _)) _) => a | _ => .skip
noncomputable def rBM3 : Go.Code := match bodyBM with | .seq _ (.seq _ (.seq a _)) => a | _ => .skip
noncomputable def rBM4 : Go.Code := match bodyBM with | .seq _ (.seq _ (.seq _ (.seq a _))) => a | _ => .skip
noncomputable def rBM5 : Go.Code := match bodyBM with | .seq _ (.seq _ (.seq _ (.seq _ (.seq a _)))) => a | _ => .skip
theorem bodyBM_eq : bodyBM = .seq rBM0 (.seq (.seq rBM1 (.cond (.tmp 19) (.seq rBM2 .ret) .skip)) (.seq rBM3 (.seq rBM4 (.seq rBM5 .ret)))) := rfl
section
variable {Q : Exit → Go.Act → World → Prop} {u0 u1 u2 u3 u4 u5 u6 u7 u8 u9 u10 u11 u12 u13 u14 u15 u16 u17 u18 u19 u20 u21 u22 u23 u24 u25 u26 : Value} {w : World} {A : Option Addr} {n cap : Nat} {l q : Int} {rs : List RecD} {g5 g7 gm : Nat} {t : Bool}
set_option maxHeartbeats 1000000 in
theorem wpBM0 (h : Q .normal ⟨#[.slice A n cap, .int .i64 l, .int .i64 q, u3, u4, .pointer (some ⟨w.heap.size, 0, none⟩), .int .i64 0, u7, u8, u9, u10, u11, u12, u13, u14, u15, u16, u17, u18, u19, u20, u21, u22, u23, u24, u25, u26], []⟩ (w.alloc (.cells #[.int .i64 q] 3))) :
    Code.wp Try.prog rBM0 Q ⟨#[.slice A n cap, .int .i64 l, .int .i64 q, u3, u4, u5, u6, u7, u8, u9, u10, u11, u12, u13, u14, u15, u16, u17, u18, u19, u20, u21, u22, u23, u24, u25, u26], []⟩ w := by
  simp only [rBM0, bodyBM, Try.f12, Option.getD_some]
  go_wp2
  exact h
set_option maxHeartbeats 1000000 in
theorem wpBM1 {lo hi : Nat} (hs : Slc w lo hi 7 A n cap (recs rs)) (hn : n ≤ 1048576) (h5 : w.heap[g5]? = some (.cells #[.int .i64 q] 3)) (ht : t = (clockB rs q && inB l 1 6))
    (h : ∀ u8 u9 u10 u11 u12 u13 u14 u15 u16 u17 u18 w', Below w.heap.size w w' → Q .normal ⟨#[.slice A n cap, .int .i64 l, .int .i64 q, u3, u4, .pointer (some ⟨g5, 0, none⟩), .int .i64 0, u7, u8, u9, u10, u11, u12, u13, u14, u15, u16, u17, u18, .bool (!t), u20, u21, u22, u23, u24, u25, u26], []⟩ w') :
    Code.wp Try.prog rBM1 Q ⟨#[.slice A n cap, .int .i64 l, .int .i64 q, u3, u4, .pointer (some ⟨g5, 0, none⟩), .int .i64 0, u7, u8, u9, u10, u11, u12, u13, u14, u15, u16, u17, u18, u19, u20, u21, u22, u23, u24, u25, u26], []⟩ w := by
  simp only [rBM1, bodyBM, Try.f12, Option.getD_some]
  have HH := Lib.hid h
  have c5 := blk_cell h5 0
  obtain ⟨s, hs'⟩ : ∃ s, s = clockB rs q := ⟨_, rfl⟩
  have HS := Lib.hid hs'
  rw [← hs'] at ht
  have HT := Lib.hid ht
  clear h h5 hs' ht
  go_wp2_with fail
  refine (impl_clockValid _ _ _ _ _ _ _ _ hs hn).mono ?_
  rintro e w1 ⟨rfl, b1⟩
  rw [← HS.out]
  clear hs c5
  cases s
  · have et : t = false := by rw [HT.out]; rfl
    subst et
    go_wp2
    exact HH.out _ _ _ _ _ _ _ _ _ _ _ _ b1
  · by_cases h1 : l < 1
    · have et : t = false := by rw [HT.out]; simp [inB]; omega
      subst et
      go_wp2
      exact HH.out _ _ _ _ _ _ _ _ _ _ _ _ b1
    · have et : (decide (l < 1) || decide (6 < l)) = !t := by
        rw [HT.out, Bool.eq_iff_iff]; simp [inB]
      have HE := Lib.hid et
      have h1' : 1 ≤ l := by omega
      clear et h1
      go_wp2
      all_goals first
        | (rw [HE.out]; exact HH.out _ _ _ _ _ _ _ _ _ _ _ _ b1)
        | (exfalso; omega)
        | skip
set_option maxHeartbeats 1000000 in
theorem wpBM2 (h : Q .normal ⟨#[u0, u1, u2, u3, u4, u5, .int .i64 (-1), u7, u8, u9, u10, u11, u12, u13, u14, u15, u16, u17, u18, u19, u20, u21, u22, u23, u24, u25, u26], []⟩ w) : Code.wp Try.prog rBM2 Q ⟨#[u0, u1, u2, u3, u4, u5, u6, u7, u8, u9, u10, u11, u12, u13, u14, u15, u16, u17, u18, u19, u20, u21, u22, u23, u24, u25, u26], []⟩ w := by
  simp only [rBM2, bodyBM, Try.f12, Option.getD_some]
  go_wp2
  exact h
set_option maxHeartbeats 1000000 in
theorem wpBM3 (h : Q .normal ⟨#[u0, u1, u2, u3, u4, u5, u6, .pointer (some ⟨w.heap.size + 1, 0, none⟩), u8, u9, u10, u11, u12, u13, u14, u15, u16, u17, u18, u19, .map (some w.heap.size), u21, u22, u23, u24, u25, u26], []⟩ ((w.alloc (.map #[] 0)).alloc (.cells #[.map (some w.heap.size)] 59))) : Code.wp Try.prog rBM3 Q ⟨#[u0, u1, u2, u3, u4, u5, u6, u7, u8, u9, u10, u11, u12, u13, u14, u15, u16, u17, u18, u19, u20, u21, u22, u23, u24, u25, u26], []⟩ w := by
  simp only [rBM3, bodyBM, Try.f12, Option.getD_some]
  have hmm := @run_makeMap Try.prog
  go_wp2
  simpa using h
set_option maxHeartbeats 1000000 in
theorem wpBM5 {k : Nat} {D : DataW Unit} {c : Int} (hm : SumsM w gm k D) (h7 : w.heap[g7]? = some (.cells #[.map (some gm)] 59)) (hl : 1 ≤ l ∧ l ≤ 6) (hc : D.atKey (.int .i64 l) (.lit (.int .i64 0)) = .lit (.int .i64 c)) (h : ∀ u24 u25 u26, Q .normal ⟨#[u0, .int .i64 l, u2, u3, u4, u5, .int .i64 c, .pointer (some ⟨g7, 0, none⟩), u8, u9, u10, u11, u12, u13, u14, u15, u16, u17, u18, u19, u20, u21, u22, u23, u24, u25, u26], []⟩ w) : Code.wp Try.prog rBM5 Q ⟨#[u0, .int .i64 l, u2, u3, u4, u5, u6, .pointer (some ⟨g7, 0, none⟩), u8, u9, u10, u11, u12, u13, u14, u15, u16, u17, u18, u19, u20, u21, u22, u23, u24, u25, u26], []⟩ w := by
  simp only [rBM5, bodyBM, Try.f12, Option.getD_some]
  have c7 := blk_cell h7 0
  have hlk := sums_look hm (wf_small (by omega) (by omega)) hc
  have HH := Lib.hid h
  clear h
  go_wp2
  exact HH.out _ _ _
end
end Go.Proofs.Ytjcpjijihajopaa
namespace Go.Proofs.Ytjcpjijihajopaa
open Go.RowKit Go.Mt Go.Conc Go.Tt Go.Maps
set_option linter.unusedVariables false
structure Bl (B : Nat) (w w' : World) : Prop where
  size : w.heap.size ≤ w'.heap.size
  block : ∀ b, b < B → w'.heap[b]? = w.heap[b]?
theorem Bl.refl (B : Nat) (w : World) : Bl B w w := ⟨Nat.le_refl _, fun _ _ => rfl⟩
theorem Bl.below {B : Nat} {a b c : World} (h : Bl B a b) (k : Below b.heap.size b c) (hB : B ≤ a.heap.size) : Bl B a c := ⟨Nat.le_trans h.size k.size, fun x hx => (k.block x (by have := h.size; omega)).trans (h.block x hx)⟩
theorem Bl.tp {B : Nat} {a b : World} (h : Bl B a b) (T : Tape) (e : Nat) : Bl B a (Tt.tp b T e) := ⟨h.size, h.block⟩
theorem Bl.al {B : Nat} {a b : World} (h : Bl B a b) (hB : B ≤ a.heap.size) (o : Obj) : Bl B a (b.alloc o) := ⟨by rw [size_push]; have := h.size; omega, fun x hx => (heap_push_lt (by have := h.size; omega)).trans (h.block x hx)⟩
theorem Slc.bl {w w' : World} {s n c : Nat} {A : Option Addr} {xs : List Value} (h : Slc w 0 w.heap.size s A n c xs) (k : Bl w.heap.size w w') : Slc w' 0 w'.heap.size s A n c xs :=
  (h.keep k.size fun b _ _ h3 => k.block b h3).wide (Nat.le_refl _) k.size
theorem srcOk_bl {w w' : World} {A : Option Addr} {src : Option Blk} (h : srcOk w A src) (k : Bl w.heap.size w w') : srcOk w' A src := by
  cases src with
  | none => exact h
  | some b => exact ⟨h.1, (k.block _ (Array.getElem?_eq_some_iff.1 h.2.1).1).trans h.2.1, h.2.2⟩
theorem thaw_at {wn : World} {src : Option Blk} {x : Nat} (h : ∀ b, src = some b → b.rb ≠ x) : (thaw wn src).heap[x]? = wn.heap[x]? := by
  cases src with
  | none => rfl
  | some b => exact put_ne (h b rfl)
theorem frz_at {wn : World} {src : Option Blk} {x : Nat} (h : ∀ b, src = some b → b.rb ≠ x) : (frz wn src).heap[x]? = wn.heap[x]? := by
  cases src with
  | none => rfl
  | some b => exact put_ne (h b rfl)
theorem ghostM_at {w : World} {src : Option Blk} {T : TypeId} {x : Nat} (hx : x < w.heap.size) (h : ∀ b, src = some b → b.rb ≠ x) : (ghostM w src T).heap[x]? = w.heap[x]? := by
  unfold ghostM
  rw [heap_push_lt (by rw [size_push, frz_size]; omega), heap_push_lt (by rw [frz_size]; omega), frz_at h]
theorem ghostM_size (w : World) (src : Option Blk) (T : TypeId) : (ghostM w src T).heap.size = w.heap.size + 2 := by
  unfold ghostM; rw [size_push, size_push, frz_size]
theorem thaw_bl {B : Nat} {w w3 wn : World} {A : Option Addr} {src : Option Blk} {T : TypeId} (hs : srcOk w3 A src) (h : Bl B w w3) (hB : B ≤ w.heap.size) (hb : ∀ x, x < B → wn.heap[x]? = (ghostM w3 src T).heap[x]?) (hz : w3.heap.size ≤ wn.heap.size) (hlt : ∀ b, src = some b → b.rb < B) : Bl B w (thaw wn src) := by
  refine ⟨by rw [thaw_size]; exact Nat.le_trans h.size hz, fun x hx => ?_⟩
  rw [← h.block x hx]
  have hx3 : x < w3.heap.size := by have := h.size; omega
  by_cases e : ∃ b, src = some b ∧ b.rb = x
  · obtain ⟨b, rfl, rfl⟩ := e
    obtain ⟨_, h2, _⟩ := hs
    rw [h2]
    exact put_same (by omega)
  · have e' : ∀ b, src = some b → b.rb ≠ x := fun b h1 h2 => e ⟨b, h1, h2⟩
    rw [thaw_at e', hb x hx, ghostM_at hx3 e']
structure SumsI (f : Int → RecD → Int) (rs : List RecD) (g5 g7 gm B : Nat) (q : Int) (wb : World) (k : Nat) (w : World) : Prop where
  c5 : w.heap[g5]? = some (.cells #[.int .i64 q] 3)
  c7 : w.heap[g7]? = some (.cells #[.map (some gm)] 59)
  m : ∃ D, SumsM w gm k D ∧ IsMap D ∧ ∀ l, D.atKey (.int .i64 l) (.lit (.int .i64 0)) = .lit (.int .i64 (sumR (f l) (rs.take k)))
  size : wb.heap.size ≤ w.heap.size
  old : ∀ b, b < B → w.heap[b]? = wb.heap[b]?
theorem busyI {rs : List RecD} {g5 g7 gm B : Nat} {q : Int} {wb : World} (hcl : clockB rs q = true) (n5 : g5 ≠ gm) (n7 : g7 ≠ gm) (hB : B ≤ gm ∧ B ≤ wb.heap.size) :
    EachI 36 #[.pointer (some ⟨g7, 0, none⟩), .pointer (some ⟨g5, 0, none⟩)] rs (SumsI (fun l => busyF l q) rs g5 g7 gm B q wb) := by
  obtain ⟨h60, k0, k1, hall⟩ := clockB_parts hcl
  refine ⟨fun k w T e h => ⟨h.c5, h.c7, h.m, h.size, h.old⟩, fun k w cs T h => ?_, fun k w d hd h => ?_⟩
  · obtain ⟨D, h1, h2, h3⟩ := h.m
    have hz := h.size
    exact ⟨blk_alloc h.c5 _, blk_alloc h.c7 _, ⟨D, h1.alloc _, h2, h3⟩, by rw [size_push]; omega, fun b hb => (heap_push_lt (by omega)).trans (h.old b hb)⟩
  · obtain ⟨D, h1, h2, h3⟩ := h.m
    obtain ⟨r1, r2⟩ := hall d (List.mem_of_getElem? hd)
    have hrt := recOk_times r1 r2 k1
    have hs := sumR_bound (busyF_bound (l := d.l) hcl) k
    have hk : k < rs.length := (List.getElem?_eq_some_iff.1 hd).1
    have key := busy1_any d q (sumR (busyF d.l q) (rs.take k)) g5 g7 gm k D w h.c5 h.c7 h1 (by omega) n5 n7 (by omega) (h3 d.l) (by omega)
    refine key.mono ?_
    rintro e w' ⟨rfl, hm, hg⟩
    refine ⟨_, rfl, (hg.block _ (blk_lt h.c5) (fun e => n5 (by injection e))).trans h.c5, (hg.block _ (blk_lt h.c7) (fun e => n7 (by injection e))).trans h.c7, ⟨_, hm, h2.put _ _, fun l => ?_⟩, Nat.le_trans h.size hg.size, fun b hb => (hg.block b (by have := h.size; omega) (fun e => by injection e with e; omega)).trans (h.old b hb)⟩
    rw [sumR_succ hd]
    by_cases e : l = d.l
    · subst e
      rw [atKey_put_same h2 (show WideAt.IsKeyLit (.int .i64 d.l) from True.intro)]
      unfold busyF
      rw [if_pos rfl]
    · rw [atKey_put_other (by intro h; injection h with _ h; exact e h), h3 l]
      unfold busyF
      rw [if_neg (fun h => e h.symm), Int.add_zero]
noncomputable def ops4B : Array Oper := match rBM4 with | .region _ ops _ => ops | _ => #[]
theorem rBM4_eq : rBM4 = .region 4 ops4B false := rfl
theorem ops4B_range : List.range ops4B.size = [0, 1, 2] := rfl
end Go.Proofs.Ytjcpjijihajopaa
namespace Go.Proofs.Ytjcpjijihajopaa
open Go.RowKit Go.Mt Go.Conc Go.Tt Go.Maps
set_option linter.unusedVariables false
theorem exec_makeFunc {p : Program} {o : Oper} {f : FuncId} {first cap : Array Operand} {ρ : Operand → Value} (hop : o.op = .makeFunc (.func f) first cap) (w : World) : (execOp ρ o).run p w = .ok (.value (.func (.func f) (first.map ρ) (cap.map ρ))) w := by
  obtain ⟨dst, op', type, pos, after, guard⟩ := o
  simp only at hop
  subst hop
  simp [execOp, go_sem]
abbrev oB0 : Oper := ⟨some 21, .move (.tmp 0), 25, "l8_bills.go:186", #[], none⟩
abbrev oB1 : Oper := ⟨some 22, .makeFunc (.func 36) #[] #[.tmp 7, .tmp 5], 61, "l8_bills.go:186", #[], none⟩
abbrev oB2 : Oper := ⟨some 23, .call ⟨.value (.func 35), #[.tmp 21, .tmp 22], #[25, 61]⟩, 0, "l8_bills.go:186", #[{ on := 0, ground := Ground.data }, { on := 1, ground := Ground.data }], none⟩
theorem ops4B_0 : ops4B[0]? = some oB0 := rfl
theorem ops4B_1 : ops4B[1]? = some oB1 := rfl
theorem ops4B_2 : ops4B[2]? = some oB2 := rfl
section
variable {St : Nat → Prop} {W0 : World} {Post : Value → World → Prop}
set_option maxHeartbeats 4000000 in
set_option maxRecDepth 100000 in
theorem jo_busy {m : Fm} {ms : List Fm} {w : World} {ops : Array Oper} {i : Nat} {rest : List Nat} {k : List Item} {o : Oper} {args : Array Operand} {ats : Array TypeId} {A : Option Addr} {n cap : Nat} {l q : Int} {rs : List RecD} {src : Option Blk}
    (hr : m.ret = false) (hfn : inL olL m.fn = false) (htd : m.todo = .inRegion ops (i :: rest) :: k) (ho : ops[i]? = some o) (hwt : Region.wanted o (yielded ops m.tmps) = true) (hop : o.op = .call ⟨.value (.func 12), args, ats⟩)
    (hv : args.map m.eval = #[.slice A n cap, .int .i64 l, .int .i64 q]) (hs : srcOk w A src) (hlo : ∀ b, src = some b → Try.prog.globals.size ≤ b.rb) (hslc : Slc w 0 w.heap.size 7 A n cap (recs rs)) (hn : n ≤ 1048576)
    (hJ : ∀ w', Bl w.heap.size w w' → JE St W0 Post (m.fin ops i rest k (.int .i64 (busyM rs l q))) ms w') : JE St W0 Post m ms w := by
  have L := lvF
  have hback : ∀ (tmps : Array Value) (td : List Item) (v : Value) (w' : World), tmps.getD 6 undef = v → Bl w.heap.size w w' → v = .int .i64 (busyM rs l q) → JE St W0 Post ⟨12, tmps, td, true⟩ (m :: ms) w' := by
    intro tmps td v w' h6 hb hvv
    refine JO.back L (v := v) rfl htd (fnx := Try.f12) Try.func12 ?_ hfn (hvv ▸ hJ w' hb)
    show (resOne tmps (.tmp 6)).run _ _ = _
    simp only [resOne, Pure.pure, Sem.run, h6]
  have hfo : inL olL 12 = false := by kernel_rfl
  have hbb : (Try.f12).body = some bodyBM := rfl
  have hnn : ((Try.f12).name == "runtime.NumGoroutine") = false := by decide
  have hcn := JO.callN (St := St) (W0 := W0) (Post := Post) (ms := ms) (w := w) (fn := Try.f12) (c := bodyBM) L hr htd ho hwt hop hfo
  refine hcn Try.func12 hnn hbb ?_
  rw [hv]
  have hent : (#[.slice A n cap, .int .i64 l, .int .i64 q] : Array Value) ++ Array.replicate ((Try.f12).ntmps - (#[.slice A n cap, .int .i64 l, .int .i64 q] : Array Value).size) undef = #[.slice A n cap, .int .i64 l, .int .i64 q, undef, undef, undef, undef, undef, undef, undef, undef, undef, undef, undef, undef, undef, undef, undef, undef, undef, undef, undef, undef, undef, undef, undef, undef] := by
    have e : (Try.f12).ntmps = 27 := rfl
    rw [e]
    apply Array.ext'
    simp only [Array.toList_append, Array.toList_replicate, List.size_toArray, List.length_cons, List.length_nil]
    rfl
  rw [hent, bodyBM_eq]
  have hsrc : ∀ b, src = some b → b.rb < w.heap.size := fun b e => by subst e; exact (Array.getElem?_eq_some_iff.1 hs.2.1).1
  refine JO.seq L hfo ?_
  refine JO.piece L (by kernel_rfl) hfo (fun T => ?_)
  refine wpBM0 ⟨rfl, ?_⟩
  obtain ⟨g5, hg5⟩ : ∃ g, g = w.heap.size := ⟨_, rfl⟩
  have B1 : Bl w.heap.size w ((Tt.tp w T 0).alloc (.cells #[.int .i64 q] 3)) := ((Bl.refl _ w).tp T 0).al (Nat.le_refl _) _
  have h5 : ((Tt.tp w T 0).alloc (.cells #[.int .i64 q] 3)).heap[g5]? = some (.cells #[.int .i64 q] 3) := by rw [hg5]; exact heap_push (Tt.tp w T 0) _
  have e5 : (Tt.tp w T 0).heap.size = g5 := hg5.symm
  rw [e5]
  generalize (Tt.tp w T 0).alloc (.cells #[.int .i64 q] 3) = w1 at B1 h5 ⊢
  refine JO.seq L hfo ?_
  refine JO.seq L hfo ?_
  obtain ⟨t, ht⟩ : ∃ t, t = (clockB rs q && inB l 1 6) := ⟨_, rfl⟩
  refine JO.piece L (by kernel_rfl) hfo (fun T => ?_)
  have B1t := B1.tp T 0
  have h5t : (Tt.tp w1 T 0).heap[g5]? = some (.cells #[.int .i64 q] 3) := h5
  refine wpBM1 (t := t) (hslc.bl B1t) hn h5t ht (fun u8 u9 u10 u11 u12 u13 u14 u15 u16 u17 u18 w2 b2 => ⟨rfl, ?_⟩)
  have B2 := B1t.below b2 (Nat.le_refl _)
  have h52 := (blk_below b2 h5t).1
  clear B1 B1t h5 h5t b2
  cases t with
  | false =>
    have hm : busyM rs l q = -1 := by
      unfold busyM
      rw [if_neg]
      rintro ⟨x, y, z⟩
      rw [x] at ht
      simp [inB, y, z] at ht
    refine JO.cond L (t := true) hfo rfl ?_
    refine JO.seq L hfo ?_
    refine JO.piece L (by kernel_rfl) hfo (fun T => ?_)
    refine wpBM2 ⟨rfl, ?_⟩
    refine JO.ret L hfo ?_
    exact hback _ _ (.int .i64 (-1)) _ rfl (B2.tp T 0) (by rw [hm])
  | true =>
    have hcl : clockB rs q = true ∧ 1 ≤ l ∧ l ≤ 6 := by simpa [inB] using ht.symm
    have hm : busyM rs l q = sumR (busyF l q) rs := by unfold busyM; rw [if_pos hcl]
    refine JO.cond L (t := false) hfo rfl ?_
    refine JO.skip L hfo ?_
    refine JO.seq L hfo ?_
    refine JO.piece L (by kernel_rfl) hfo (fun T => ?_)
    have B2t := B2.tp T 0
    have h52t : (Tt.tp w2 T 0).heap[g5]? = some (.cells #[.int .i64 q] 3) := h52
    generalize Tt.tp w2 T 0 = w3 at B2t h52t ⊢
    clear B2 h52
    refine wpBM3 ⟨rfl, ?_⟩
    have hz3 := B2t.size
    have hlt5 := blk_lt h52t
    obtain ⟨gm, hgm⟩ : ∃ g, g = w3.heap.size := ⟨_, rfl⟩
    have B3 := (B2t.al (Nat.le_refl _) (.map #[] 0)).al (Nat.le_refl _) (.cells #[.map (some w3.heap.size)] 59)
    have h53 := blk_alloc (blk_alloc h52t (.map #[] 0)) (.cells #[.map (some w3.heap.size)] 59)
    have e1 : (w3.alloc (.map #[] 0)).heap.size = gm + 1 := by rw [size_push, hgm]
    have h73 : ((w3.alloc (.map #[] 0)).alloc (.cells #[.map (some w3.heap.size)] 59)).heap[gm + 1]? = some (.cells #[.map (some gm)] 59) := by rw [← e1, heap_push, hgm]
    have hm3 : SumsM ((w3.alloc (.map #[] 0)).alloc (.cells #[.map (some w3.heap.size)] 59)) gm 0 (.map []) := by
      rw [hgm]; exact (World.ownsMap_made w3 _ _ _).alloc _
    have hlt3 : gm + 1 < ((w3.alloc (.map #[] 0)).alloc (.cells #[.map (some w3.heap.size)] 59)).heap.size := blk_lt h73
    rw [← hgm] at B3 h53 h73 hm3 hlt3 ⊢
    rw [← hgm] at hz3 hlt5
    generalize (w3.alloc (.map #[] 0)).alloc (.cells #[.map (some gm)] 59) = w4 at B3 h53 h73 hm3 hlt3 ⊢
    clear B2t h52t
    refine JO.seq L hfo ?_
    rw [rBM4_eq]
    refine JO.reg L hfo ?_
    rw [ops4B_range]
    refine JO.opv L (v := .slice A n cap) hfo ops4B_0 rfl (fun T e => rfl) ?_
    simp only [Go.Act.put, List.setIfInBounds_toArray, List.set_cons_zero, List.set_cons_succ]
    refine JO.opv L (v := .func (.func 36) #[] #[.pointer (some ⟨gm + 1, 0, none⟩), .pointer (some ⟨g5, 0, none⟩)]) hfo ops4B_1 rfl (fun T e => (exec_makeFunc (f := 36) (first := #[]) (cap := #[.tmp 7, .tmp 5]) rfl _).trans (by simp [Go.Act.eval])) ?_
    simp only [Go.Act.put, List.setIfInBounds_toArray, List.set_cons_zero, List.set_cons_succ]
    have hI := busyI (B := w.heap.size) (wb := ghostM w4 src 76) (g5 := g5) (g7 := gm + 1) (gm := gm) hcl.1 (by omega) (by omega) ⟨by omega, by rw [ghostM_size]; have := B3.size; omega⟩
    refine jo_each (ops := ops4B) (i := 2) (o := oB2) (src := src) (rs := rs) (f := 36) (capt := #[.pointer (some ⟨gm + 1, 0, none⟩), .pointer (some ⟨g5, 0, none⟩)]) rfl rfl ops4B_2 rfl rfl (by kernel_rfl) (by simp [Fm.eval]) (srcOk_bl hs B3) hlo (hslc.bl B3) hn hI (by kernel_rfl) ?_ (fun wn hin => ?_)
    · have hne : ∀ x, w.heap.size ≤ x → ∀ b, src = some b → b.rb ≠ x := fun x hx b e e2 => by have := hsrc b e; omega
      refine ⟨?_, ?_, ⟨_, ?_, isMap_empty, fun l => ?_⟩, Nat.le_refl _, fun _ _ => rfl⟩
      · rw [ghostM_at (by omega) (hne _ (by omega))]; exact h53
      · rw [ghostM_at (by omega) (hne _ (by omega))]; exact h73
      · obtain ⟨es, cl, hb, F, hsz, hD⟩ := hm3
        exact ⟨es, cl, (ghostM_at (by omega) (hne _ (by omega))).trans hb, F, hsz, hD⟩
      · simp [sumR]; rfl
    · have hne : ∀ x, w.heap.size ≤ x → ∀ b, src = some b → b.rb ≠ x := fun x hx b e e2 => by have := hsrc b e; omega
      have hwz := hin.size
      rw [ghostM_size] at hwz
      have B5 := thaw_bl (srcOk_bl hs B3) B3 (Nat.le_refl _) hin.old (by omega) hsrc
      have h75 : (thaw wn src).heap[gm + 1]? = some (.cells #[.map (some gm)] 59) := (thaw_at (hne _ (by omega))).trans hin.c7
      obtain ⟨D, hD1, _, hD3⟩ := hin.m
      have hm5 : SumsM (thaw wn src) gm n D := by
        obtain ⟨es, cl, hb, F, hsz, hD⟩ := hD1
        exact ⟨es, cl, (thaw_at (hne _ (by omega))).trans hb, F, hsz, hD⟩
      have hq := hD3 l
      rw [List.take_of_length_le (by rw [hslc.recLen]; exact Nat.le_refl _)] at hq
      simp only [Fm.fin, ops4B_2, Option.bind_some, List.setIfInBounds_toArray, List.set_cons_zero, List.set_cons_succ]
      refine JO.regEnd L hfo ?_
      refine JO.seq L hfo ?_
      refine JO.piece L (by kernel_rfl) hfo (fun T => ?_)
      have B5t := B5.tp T 0
      have h75t : (Tt.tp (thaw wn src) T 0).heap[gm + 1]? = some (.cells #[.map (some gm)] 59) := h75
      have hm5t : SumsM (Tt.tp (thaw wn src) T 0) gm n D := hm5
      refine wpBM5 hm5t h75t hcl.2 hq (fun u24 u25 u26 => ⟨rfl, ?_⟩)
      refine JO.ret L hfo ?_
      exact hback _ _ (.int .i64 (sumR (busyF l q) rs)) _ rfl B5t (by rw [hm])
end
end Go.Proofs.Ytjcpjijihajopaa
namespace Go.Proofs.Ytjcpjijihajopaa
open Go.RowKit Go.Mt Go.Conc Go.Tt Go.Maps
set_option linter.unusedVariables false
section
variable {p : Program} {op gs gs₁ fs : FuncId → Bool} {St : Nat → Prop} {W0 : World} {Post : Value → World → Prop}
theorem JO.pieceQ (L : Lv p op gs gs₁ fs) {fn : FuncId} {tmps : Array Value} {c : Go.Code} {k : List Item} {b : List Fm} {w : World} (hc : fitCode p ⟨fs, gs₁, false⟩ c = true) (hfn : op fn = false)
    (hwp : ∀ (T : Tape) (Q : Exit → Go.Act → World → Prop), Hid (∀ a' w', JL p op gs fs St W0 Post ⟨fn, a'.tmps, k, false⟩ b w' → Q .normal a' w') → Code.wp p c Q ⟨tmps, []⟩ (Tt.tp w T 0)) :
    JL p op gs fs St W0 Post ⟨fn, tmps, .code c :: k, false⟩ b w :=
  JO.piece L hc hfn fun T => hwp T _ (Lib.hid fun a' w' h => ⟨rfl, h⟩)
end
end Go.Proofs.Ytjcpjijihajopaa
namespace Go.Proofs.Ytjcpjijihajopaa
open Go.RowKit Go.Mt Go.Conc Go.Tt Go.Maps
set_option linter.unusedVariables false
end Go.Proofs.Ytjcpjijihajopaa
namespace Go.Proofs.Ytjcpjijihajopaa
open Go.RowKit Go.Mt Go.Conc Go.Tt Go.Maps
set_option linter.unusedVariables false
theorem recs_plain {rs : List RecD} : ∀ v ∈ recs rs, plainV v := by
  intro v hv
  obtain ⟨d, _, hd⟩ := List.mem_flatMap.1 hv
  simp only [RecD.cells, List.mem_cons, List.not_mem_nil, or_false] at hd
  rcases hd with rfl | rfl | rfl | rfl | rfl | rfl | rfl
  all_goals first
    | exact .inl ⟨_, _, rfl⟩
    | exact .inr (.inl ⟨_, rfl⟩)
end Go.Proofs.Ytjcpjijihajopaa
namespace Go.Proofs.Ytjcpjijihajopaa
open Go.RowKit Go.Maps
set_option linter.unusedVariables false
set_option maxHeartbeats 4000000 in
set_option maxRecDepth 20000 in
theorem waited1_any (d : RecD) (q c : Int) (g5 g7 gm k : Nat) (D : DataW Unit) (w : World) (h5 : w.heap[g5]? = some (.cells #[.int .i64 q] 3)) (h7 : w.heap[g7]? = some (.cells #[.map (some gm)] 59)) (hm : SumsM w gm k D) (hk : k ≤ 1048576) (n5 : g5 ≠ gm) (n7 : g7 ≠ gm)
    (hd : -1000000 ≤ d.c ∧ d.c ≤ 1000000) (hc : D.atKey (.int .i64 d.c) (.lit (.int .i64 0)) = .lit (.int .i64 c)) (hb : -100000 ≤ c ∧ c ≤ 900000 ∧ 0 ≤ untilF q d - d.f ∧ untilF q d - d.f ≤ 3600) :
    Calls Try.prog 39 #[.agg #[.int .i64 d.c, .int .i64 d.l, .int .i64 d.o, .int .i64 d.f, .int .i64 d.h, .int .i64 d.t, .string d.e], .pointer (some ⟨g5, 0, none⟩), .pointer (some ⟨g7, 0, none⟩)] w fun e w' => e = .returned (.tuple #[]) ∧ SumsM w' gm (k + 1) (D.put (.int .i64 d.c) (.lit (.int .i64 (c + (untilF q d - d.f))))) ∧ w.grownBy w' (some gm) := by
  have hlw := wf_small hd.1 hd.2
  have hvw : (Lit.int .i64 (c + (untilF q d - d.f))).wf = true := wf_small (by omega) (by omega)
  have hlt := hm.lt
  have nr : w.heap.size ≠ gm := by omega
  obtain ⟨o, ho⟩ : ∃ o : Obj, o = .cells #[.int .i64 d.c, .int .i64 d.l, .int .i64 d.o, .int .i64 d.f, .int .i64 d.h, .int .i64 d.t, .string d.e] 50 := ⟨_, rfl⟩
  have hr : (w.alloc o).heap[w.heap.size]? = some (.cells #[.int .i64 d.c, .int .i64 d.l, .int .i64 d.o, .int .i64 d.f, .int .i64 d.h, .int .i64 d.t, .string d.e] 50) := by rw [← ho]; exact heap_alloc_new _ _
  have hm1 : SumsM (w.alloc o) gm k D := hm.alloc o
  have h51 := blk_alloc h5 o
  have h71 := blk_alloc h7 o
  have G0 : w.grownBy (w.alloc o) (some gm) := World.grownBy_alloc w o _
  clear hm h5 h7
  by_cases hh : d.h = -1
  · have HU : untilF q d = endF q d := by unfold untilF; rw [if_pos hh]
    rw [HU] at hvw hb ⊢
    have hhb : (d.h == -1) = true := by simp [hh]
    clear HU hh
    obtain ⟨E, hE⟩ : ∃ E, E = endF q d := ⟨_, rfl⟩
    have HE := Lib.hid hE
    rw [← hE] at hvw hb ⊢
    clear hE
    have W1 := (IntWalk.i64_left _).trans (IntWalk.wrap64_in (E - d.f) (by omega))
    have W2 := (IntWalk.i64_left _).trans (IntWalk.wrap64_in (c + (E - d.f)) (by omega))
    have e5 := blk_cell h51 0
    have e7 := blk_cell h71 0
    have HC := Lib.hid hc
    have HV := Lib.hid hvw
    have HM := Lib.hid hm1
    have HR := Lib.hid hr
    have H7 := Lib.hid h71
    have HG := Lib.hid G0
    have HO := Lib.hid ho
    rw [ho] at e5 e7
    clear hc hvw hm1 hr h71 h51 ho G0 hlt
    go_enter Try.func39, Try.ntmps39
    go_wp2_with fail
    rw [← HO.out]
    refine (impl_endAt d q _).mono ?_
    rintro x w2 ⟨rfl, b2⟩
    rw [← HE.out]
    have hm2 := sums_below HM.out b2
    have hlk := sums_look hm2 hlw HC.out
    obtain ⟨w3, hup, hm3, hg3⟩ := sums_upd hm2 hk hlw HV.out
    have G2 : (w.alloc o).grownBy w2 (some gm) := ⟨b2.os, b2.tape, b2.output, b2.size, fun i hi _ => b2.block i hi⟩
    have h72 := (blk_below b2 H7.out).1
    have hr2 := (blk_below b2 HR.out).1
    clear e5 e7 b2
    have c0 := blk_cell hr2 0
    have c3 := blk_cell hr2 3
    have e7 := blk_cell h72 0
    have K1 := Lib.hid hm3
    have K2 := Lib.hid hg3
    have K4 := Lib.hid G2
    clear hm3 hg3 hm2 G2
    go_wp2
    exact bodyPost_end (v := .tuple #[]) (results_none rfl _ _ _) rfl ⟨rfl, K1.out, (HG.out.trans K4.out).trans K2.out⟩
  · have HU : untilF q d = d.h := by unfold untilF; rw [if_neg hh]
    rw [HU] at hvw hb ⊢
    have hhb : (d.h == -1) = false := by simp [hh]
    clear HU hh
    have W1 := (IntWalk.i64_left _).trans (IntWalk.wrap64_in (d.h - d.f) (by omega))
    have W2 := (IntWalk.i64_left _).trans (IntWalk.wrap64_in (c + (d.h - d.f)) (by omega))
    have e7 := blk_cell h71 0
    have hlk := sums_look hm1 hlw hc
    obtain ⟨w3, hup, hm3, hg3⟩ := sums_upd hm1 hk hlw hvw
    have K1 := Lib.hid hm3
    have K2 := Lib.hid hg3
    have K3 := Lib.hid G0
    rw [ho] at e7 hlk hup
    clear hm3 hg3 hm1 G0 hc hvw hr h71 h51 ho hlt
    go_enter Try.func39, Try.ntmps39
    go_wp2
    exact bodyPost_end (v := .tuple #[]) (results_none rfl _ _ _) rfl ⟨rfl, K1.out, K3.out.trans K2.out⟩
end Go.Proofs.Ytjcpjijihajopaa
namespace Go.Proofs.Ytjcpjijihajopaa
open Go.RowKit Go.Mt Go.Conc Go.Tt Go.Maps
set_option linter.unusedVariables false
noncomputable def bodyWM : Go.Code := (Try.f15.body).getD .skip
noncomputable def rWM0 : Go.Code := match bodyWM with | .seq a _ => a | _ => .skip
noncomputable def rWM1 : Go.Code := match bodyWM with | .seq _ (.seq (.seq a _) _) => a | _ => .skip
noncomputable def rWM2 : Go.Code := match bodyWM with | .seq _ (.seq (.seq _ (.cond _ (.seq a _) _)) _) => a | _ => .skip
noncomputable def rWM3 : Go.Code := match bodyWM with | .seq _ (.seq _ (.seq a _)) => a | _ => .skip
noncomputable def rWM4 : Go.Code := match bodyWM with | .seq _ (.seq _ (.seq _ (.seq a _))) => a | _ => .skip
noncomputable def rWM5 : Go.Code := match bodyWM with | .seq _ (.seq _ (.seq _ (.seq _ (.seq a _)))) => a | _ => .skip
theorem bodyWM_eq : bodyWM = .seq rWM0 (.seq (.seq rWM1 (.cond (.tmp 19) (.seq rWM2 .ret) .skip)) (.seq rWM3 (.seq rWM4 (.seq rWM5 .ret)))) := rfl
section
variable {Q : Exit → Go.Act → World → Prop} {u0 u1 u2 u3 u4 u5 u6 u7 u8 u9 u10 u11 u12 u13 u14 u15 u16 u17 u18 u19 u20 u21 u22 u23 u24 u25 u26 : Value} {w : World} {A : Option Addr} {n cap : Nat} {l q : Int} {rs : List RecD} {g5 g7 gm : Nat} {t : Bool}
set_option maxHeartbeats 1000000 in
theorem wpWM0 (h : Q .normal ⟨#[.slice A n cap, .int .i64 l, .int .i64 q, u3, u4, .pointer (some ⟨w.heap.size, 0, none⟩), .int .i64 0, u7, u8, u9, u10, u11, u12, u13, u14, u15, u16, u17, u18, u19, u20, u21, u22, u23, u24, u25, u26], []⟩ (w.alloc (.cells #[.int .i64 q] 3))) :
    Code.wp Try.prog rWM0 Q ⟨#[.slice A n cap, .int .i64 l, .int .i64 q, u3, u4, u5, u6, u7, u8, u9, u10, u11, u12, u13, u14, u15, u16, u17, u18, u19, u20, u21, u22, u23, u24, u25, u26], []⟩ w := by
  simp only [rWM0, bodyWM, Try.f15, Option.getD_some]
  go_wp2
  exact h
set_option maxHeartbeats 1000000 in
theorem wpWM1 {lo hi : Nat} (hs : Slc w lo hi 7 A n cap (recs rs)) (hn : n ≤ 1048576) (h5 : w.heap[g5]? = some (.cells #[.int .i64 q] 3)) (ht : t = (clockB rs q && inB l 1 99))
    (h : ∀ u8 u9 u10 u11 u12 u13 u14 u15 u16 u17 u18 w', Below w.heap.size w w' → Q .normal ⟨#[.slice A n cap, .int .i64 l, .int .i64 q, u3, u4, .pointer (some ⟨g5, 0, none⟩), .int .i64 0, u7, u8, u9, u10, u11, u12, u13, u14, u15, u16, u17, u18, .bool (!t), u20, u21, u22, u23, u24, u25, u26], []⟩ w') :
    Code.wp Try.prog rWM1 Q ⟨#[.slice A n cap, .int .i64 l, .int .i64 q, u3, u4, .pointer (some ⟨g5, 0, none⟩), .int .i64 0, u7, u8, u9, u10, u11, u12, u13, u14, u15, u16, u17, u18, u19, u20, u21, u22, u23, u24, u25, u26], []⟩ w := by
  simp only [rWM1, bodyWM, Try.f15, Option.getD_some]
  have HH := Lib.hid h
  have c5 := blk_cell h5 0
  obtain ⟨s, hs'⟩ : ∃ s, s = clockB rs q := ⟨_, rfl⟩
  have HS := Lib.hid hs'
  rw [← hs'] at ht
  have HT := Lib.hid ht
  clear h h5 hs' ht
  go_wp2_with fail
  refine (impl_clockValid _ _ _ _ _ _ _ _ hs hn).mono ?_
  rintro e w1 ⟨rfl, b1⟩
  rw [← HS.out]
  clear hs c5
  cases s
  · have et : t = false := by rw [HT.out]; rfl
    subst et
    go_wp2
    exact HH.out _ _ _ _ _ _ _ _ _ _ _ _ b1
  · by_cases h1 : l < 1
    · have et : t = false := by rw [HT.out]; simp [inB]; omega
      subst et
      go_wp2
      exact HH.out _ _ _ _ _ _ _ _ _ _ _ _ b1
    · have et : (decide (l < 1) || decide (99 < l)) = !t := by
        rw [HT.out, Bool.eq_iff_iff]; simp [inB]
      have HE := Lib.hid et
      have h1' : 1 ≤ l := by omega
      clear et h1
      go_wp2
      all_goals first
        | (rw [HE.out]; exact HH.out _ _ _ _ _ _ _ _ _ _ _ _ b1)
        | (exfalso; omega)
        | skip
set_option maxHeartbeats 1000000 in
theorem wpWM2 (h : Q .normal ⟨#[u0, u1, u2, u3, u4, u5, .int .i64 (-1), u7, u8, u9, u10, u11, u12, u13, u14, u15, u16, u17, u18, u19, u20, u21, u22, u23, u24, u25, u26], []⟩ w) : Code.wp Try.prog rWM2 Q ⟨#[u0, u1, u2, u3, u4, u5, u6, u7, u8, u9, u10, u11, u12, u13, u14, u15, u16, u17, u18, u19, u20, u21, u22, u23, u24, u25, u26], []⟩ w := by
  simp only [rWM2, bodyWM, Try.f15, Option.getD_some]
  go_wp2
  exact h
set_option maxHeartbeats 1000000 in
theorem wpWM3 (h : Q .normal ⟨#[u0, u1, u2, u3, u4, u5, u6, .pointer (some ⟨w.heap.size + 1, 0, none⟩), u8, u9, u10, u11, u12, u13, u14, u15, u16, u17, u18, u19, .map (some w.heap.size), u21, u22, u23, u24, u25, u26], []⟩ ((w.alloc (.map #[] 0)).alloc (.cells #[.map (some w.heap.size)] 59))) : Code.wp Try.prog rWM3 Q ⟨#[u0, u1, u2, u3, u4, u5, u6, u7, u8, u9, u10, u11, u12, u13, u14, u15, u16, u17, u18, u19, u20, u21, u22, u23, u24, u25, u26], []⟩ w := by
  simp only [rWM3, bodyWM, Try.f15, Option.getD_some]
  have hmm := @run_makeMap Try.prog
  go_wp2
  simpa using h
set_option maxHeartbeats 1000000 in
theorem wpWM5 {k : Nat} {D : DataW Unit} {c : Int} (hm : SumsM w gm k D) (h7 : w.heap[g7]? = some (.cells #[.map (some gm)] 59)) (hl : 1 ≤ l ∧ l ≤ 99) (hc : D.atKey (.int .i64 l) (.lit (.int .i64 0)) = .lit (.int .i64 c)) (h : ∀ u24 u25 u26, Q .normal ⟨#[u0, .int .i64 l, u2, u3, u4, u5, .int .i64 c, .pointer (some ⟨g7, 0, none⟩), u8, u9, u10, u11, u12, u13, u14, u15, u16, u17, u18, u19, u20, u21, u22, u23, u24, u25, u26], []⟩ w) : Code.wp Try.prog rWM5 Q ⟨#[u0, .int .i64 l, u2, u3, u4, u5, u6, .pointer (some ⟨g7, 0, none⟩), u8, u9, u10, u11, u12, u13, u14, u15, u16, u17, u18, u19, u20, u21, u22, u23, u24, u25, u26], []⟩ w := by
  simp only [rWM5, bodyWM, Try.f15, Option.getD_some]
  have c7 := blk_cell h7 0
  have hlk := sums_look hm (wf_small (by omega) (by omega)) hc
  have HH := Lib.hid h
  clear h
  go_wp2
  exact HH.out _ _ _
end
end Go.Proofs.Ytjcpjijihajopaa
namespace Go.Proofs.Ytjcpjijihajopaa
open Go.RowKit Go.Mt Go.Conc Go.Tt Go.Maps
set_option linter.unusedVariables false
theorem waitI {rs : List RecD} {g5 g7 gm B : Nat} {q : Int} {wb : World} (hcl : clockB rs q = true) (n5 : g5 ≠ gm) (n7 : g7 ≠ gm) (hB : B ≤ gm ∧ B ≤ wb.heap.size) :
    EachI 39 #[.pointer (some ⟨g5, 0, none⟩), .pointer (some ⟨g7, 0, none⟩)] rs (SumsI (fun l => waitF l q) rs g5 g7 gm B q wb) := by
  obtain ⟨h60, k0, k1, hall⟩ := clockB_parts hcl
  refine ⟨fun k w T e h => ⟨h.c5, h.c7, h.m, h.size, h.old⟩, fun k w cs T h => ?_, fun k w d hd h => ?_⟩
  · obtain ⟨D, h1, h2, h3⟩ := h.m
    have hz := h.size
    exact ⟨blk_alloc h.c5 _, blk_alloc h.c7 _, ⟨D, h1.alloc _, h2, h3⟩, by rw [size_push]; omega, fun b hb => (heap_push_lt (by omega)).trans (h.old b hb)⟩
  · obtain ⟨D, h1, h2, h3⟩ := h.m
    obtain ⟨r1, r2⟩ := hall d (List.mem_of_getElem? hd)
    have hrt := recOk_times r1 r2 k1
    have hut := until_times r1 r2 k1
    have hs := sumR_bound (waitF_bound (l := d.c) hcl) k
    have hk : k < rs.length := (List.getElem?_eq_some_iff.1 hd).1
    have key := waited1_any d q (sumR (waitF d.c q) (rs.take k)) g5 g7 gm k D w h.c5 h.c7 h1 (by omega) n5 n7 (by omega) (h3 d.c) (by omega)
    refine key.mono ?_
    rintro e w' ⟨rfl, hm, hg⟩
    refine ⟨_, rfl, (hg.block _ (blk_lt h.c5) (fun e => n5 (by injection e))).trans h.c5, (hg.block _ (blk_lt h.c7) (fun e => n7 (by injection e))).trans h.c7, ⟨_, hm, h2.put _ _, fun l => ?_⟩, Nat.le_trans h.size hg.size, fun b hb => (hg.block b (by have := h.size; omega) (fun e => by injection e with e; omega)).trans (h.old b hb)⟩
    rw [sumR_succ hd]
    by_cases e : l = d.c
    · subst e
      rw [atKey_put_same h2 (show WideAt.IsKeyLit (.int .i64 d.c) from True.intro)]
      unfold waitF
      rw [if_pos rfl]
    · rw [atKey_put_other (by intro h; injection h with _ h; exact e h), h3 l]
      unfold waitF
      rw [if_neg (fun h => e h.symm), Int.add_zero]
noncomputable def ops4W : Array Oper := match rWM4 with | .region _ ops _ => ops | _ => #[]
theorem rWM4_eq : rWM4 = .region 4 ops4W false := rfl
theorem ops4W_range : List.range ops4W.size = [0, 1, 2] := rfl
end Go.Proofs.Ytjcpjijihajopaa
namespace Go.Proofs.Ytjcpjijihajopaa
open Go.RowKit Go.Mt Go.Conc Go.Tt Go.Maps
set_option linter.unusedVariables false
abbrev oW0 : Oper := ⟨some 21, .move (.tmp 0), 25, "l8_bills.go:198", #[], none⟩
abbrev oW1 : Oper := ⟨some 22, .makeFunc (.func 39) #[] #[.tmp 5, .tmp 7], 61, "l8_bills.go:198", #[], none⟩
abbrev oW2 : Oper := ⟨some 23, .call ⟨.value (.func 35), #[.tmp 21, .tmp 22], #[25, 61]⟩, 0, "l8_bills.go:198", #[{ on := 0, ground := Ground.data }, { on := 1, ground := Ground.data }], none⟩
theorem ops4W_0 : ops4W[0]? = some oW0 := rfl
theorem ops4W_1 : ops4W[1]? = some oW1 := rfl
theorem ops4W_2 : ops4W[2]? = some oW2 := rfl
section
variable {St : Nat → Prop} {W0 : World} {Post : Value → World → Prop}
set_option maxHeartbeats 4000000 in
set_option maxRecDepth 100000 in
theorem jo_wait {m : Fm} {ms : List Fm} {w : World} {ops : Array Oper} {i : Nat} {rest : List Nat} {k : List Item} {o : Oper} {args : Array Operand} {ats : Array TypeId} {A : Option Addr} {n cap : Nat} {l q : Int} {rs : List RecD} {src : Option Blk}
    (hr : m.ret = false) (hfn : inL olL m.fn = false) (htd : m.todo = .inRegion ops (i :: rest) :: k) (ho : ops[i]? = some o) (hwt : Region.wanted o (yielded ops m.tmps) = true) (hop : o.op = .call ⟨.value (.func 15), args, ats⟩)
    (hv : args.map m.eval = #[.slice A n cap, .int .i64 l, .int .i64 q]) (hs : srcOk w A src) (hlo : ∀ b, src = some b → Try.prog.globals.size ≤ b.rb) (hslc : Slc w 0 w.heap.size 7 A n cap (recs rs)) (hn : n ≤ 1048576)
    (hJ : ∀ w', Bl w.heap.size w w' → JE St W0 Post (m.fin ops i rest k (.int .i64 (waitM rs l q))) ms w') : JE St W0 Post m ms w := by
  have L := lvF
  have hback : ∀ (tmps : Array Value) (td : List Item) (v : Value) (w' : World), tmps.getD 6 undef = v → Bl w.heap.size w w' → v = .int .i64 (waitM rs l q) → JE St W0 Post ⟨15, tmps, td, true⟩ (m :: ms) w' := by
    intro tmps td v w' h6 hb hvv
    refine JO.back L (v := v) rfl htd (fnx := Try.f15) Try.func15 ?_ hfn (hvv ▸ hJ w' hb)
    show (resOne tmps (.tmp 6)).run _ _ = _
    simp only [resOne, Pure.pure, Sem.run, h6]
  have hfo : inL olL 15 = false := by kernel_rfl
  have hbb : (Try.f15).body = some bodyWM := rfl
  have hnn : ((Try.f15).name == "runtime.NumGoroutine") = false := by decide
  have hcn := JO.callN (St := St) (W0 := W0) (Post := Post) (ms := ms) (w := w) (fn := Try.f15) (c := bodyWM) L hr htd ho hwt hop hfo
  refine hcn Try.func15 hnn hbb ?_
  rw [hv]
  have hent : (#[.slice A n cap, .int .i64 l, .int .i64 q] : Array Value) ++ Array.replicate ((Try.f15).ntmps - (#[.slice A n cap, .int .i64 l, .int .i64 q] : Array Value).size) undef = #[.slice A n cap, .int .i64 l, .int .i64 q, undef, undef, undef, undef, undef, undef, undef, undef, undef, undef, undef, undef, undef, undef, undef, undef, undef, undef, undef, undef, undef, undef, undef, undef] := by
    have e : (Try.f15).ntmps = 27 := rfl
    rw [e]
    apply Array.ext'
    simp only [Array.toList_append, Array.toList_replicate, List.size_toArray, List.length_cons, List.length_nil]
    rfl
  rw [hent, bodyWM_eq]
  have hsrc : ∀ b, src = some b → b.rb < w.heap.size := fun b e => by subst e; exact (Array.getElem?_eq_some_iff.1 hs.2.1).1
  refine JO.seq L hfo ?_
  refine JO.piece L (by kernel_rfl) hfo (fun T => ?_)
  refine wpWM0 ⟨rfl, ?_⟩
  obtain ⟨g5, hg5⟩ : ∃ g, g = w.heap.size := ⟨_, rfl⟩
  have B1 : Bl w.heap.size w ((Tt.tp w T 0).alloc (.cells #[.int .i64 q] 3)) := ((Bl.refl _ w).tp T 0).al (Nat.le_refl _) _
  have h5 : ((Tt.tp w T 0).alloc (.cells #[.int .i64 q] 3)).heap[g5]? = some (.cells #[.int .i64 q] 3) := by rw [hg5]; exact heap_push (Tt.tp w T 0) _
  have e5 : (Tt.tp w T 0).heap.size = g5 := hg5.symm
  rw [e5]
  generalize (Tt.tp w T 0).alloc (.cells #[.int .i64 q] 3) = w1 at B1 h5 ⊢
  refine JO.seq L hfo ?_
  refine JO.seq L hfo ?_
  obtain ⟨t, ht⟩ : ∃ t, t = (clockB rs q && inB l 1 99) := ⟨_, rfl⟩
  refine JO.piece L (by kernel_rfl) hfo (fun T => ?_)
  have B1t := B1.tp T 0
  have h5t : (Tt.tp w1 T 0).heap[g5]? = some (.cells #[.int .i64 q] 3) := h5
  refine wpWM1 (t := t) (hslc.bl B1t) hn h5t ht (fun u8 u9 u10 u11 u12 u13 u14 u15 u16 u17 u18 w2 b2 => ⟨rfl, ?_⟩)
  have B2 := B1t.below b2 (Nat.le_refl _)
  have h52 := (blk_below b2 h5t).1
  clear B1 B1t h5 h5t b2
  cases t with
  | false =>
    have hm : waitM rs l q = -1 := by
      unfold waitM
      rw [if_neg]
      rintro ⟨x, y, z⟩
      rw [x] at ht
      simp [inB, y, z] at ht
    refine JO.cond L (t := true) hfo rfl ?_
    refine JO.seq L hfo ?_
    refine JO.piece L (by kernel_rfl) hfo (fun T => ?_)
    refine wpWM2 ⟨rfl, ?_⟩
    refine JO.ret L hfo ?_
    exact hback _ _ (.int .i64 (-1)) _ rfl (B2.tp T 0) (by rw [hm])
  | true =>
    have hcl : clockB rs q = true ∧ 1 ≤ l ∧ l ≤ 99 := by simpa [inB] using ht.symm
    have hm : waitM rs l q = sumR (waitF l q) rs := by unfold waitM; rw [if_pos hcl]
    refine JO.cond L (t := false) hfo rfl ?_
    refine JO.skip L hfo ?_
    refine JO.seq L hfo ?_
    refine JO.piece L (by kernel_rfl) hfo (fun T => ?_)
    have B2t := B2.tp T 0
    have h52t : (Tt.tp w2 T 0).heap[g5]? = some (.cells #[.int .i64 q] 3) := h52
    generalize Tt.tp w2 T 0 = w3 at B2t h52t ⊢
    clear B2 h52
    refine wpWM3 ⟨rfl, ?_⟩
    have hz3 := B2t.size
    have hlt5 := blk_lt h52t
    obtain ⟨gm, hgm⟩ : ∃ g, g = w3.heap.size := ⟨_, rfl⟩
    have B3 := (B2t.al (Nat.le_refl _) (.map #[] 0)).al (Nat.le_refl _) (.cells #[.map (some w3.heap.size)] 59)
    have h53 := blk_alloc (blk_alloc h52t (.map #[] 0)) (.cells #[.map (some w3.heap.size)] 59)
    have e1 : (w3.alloc (.map #[] 0)).heap.size = gm + 1 := by rw [size_push, hgm]
    have h73 : ((w3.alloc (.map #[] 0)).alloc (.cells #[.map (some w3.heap.size)] 59)).heap[gm + 1]? = some (.cells #[.map (some gm)] 59) := by rw [← e1, heap_push, hgm]
    have hm3 : SumsM ((w3.alloc (.map #[] 0)).alloc (.cells #[.map (some w3.heap.size)] 59)) gm 0 (.map []) := by
      rw [hgm]; exact (World.ownsMap_made w3 _ _ _).alloc _
    have hlt3 : gm + 1 < ((w3.alloc (.map #[] 0)).alloc (.cells #[.map (some w3.heap.size)] 59)).heap.size := blk_lt h73
    rw [← hgm] at B3 h53 h73 hm3 hlt3 ⊢
    rw [← hgm] at hz3 hlt5
    generalize (w3.alloc (.map #[] 0)).alloc (.cells #[.map (some gm)] 59) = w4 at B3 h53 h73 hm3 hlt3 ⊢
    clear B2t h52t
    refine JO.seq L hfo ?_
    rw [rWM4_eq]
    refine JO.reg L hfo ?_
    rw [ops4W_range]
    refine JO.opv L (v := .slice A n cap) hfo ops4W_0 rfl (fun T e => rfl) ?_
    simp only [Go.Act.put, List.setIfInBounds_toArray, List.set_cons_zero, List.set_cons_succ]
    refine JO.opv L (v := .func (.func 39) #[] #[.pointer (some ⟨g5, 0, none⟩), .pointer (some ⟨gm + 1, 0, none⟩)]) hfo ops4W_1 rfl (fun T e => (exec_makeFunc (f := 39) (first := #[]) (cap := #[.tmp 5, .tmp 7]) rfl _).trans (by simp [Go.Act.eval])) ?_
    simp only [Go.Act.put, List.setIfInBounds_toArray, List.set_cons_zero, List.set_cons_succ]
    have hI := waitI (B := w.heap.size) (wb := ghostM w4 src 76) (g5 := g5) (g7 := gm + 1) (gm := gm) hcl.1 (by omega) (by omega) ⟨by omega, by rw [ghostM_size]; have := B3.size; omega⟩
    refine jo_each (ops := ops4W) (i := 2) (o := oW2) (src := src) (rs := rs) (f := 39) (capt := #[.pointer (some ⟨g5, 0, none⟩), .pointer (some ⟨gm + 1, 0, none⟩)]) rfl rfl ops4W_2 rfl rfl (by kernel_rfl) (by simp [Fm.eval]) (srcOk_bl hs B3) hlo (hslc.bl B3) hn hI (by kernel_rfl) ?_ (fun wn hin => ?_)
    · have hne : ∀ x, w.heap.size ≤ x → ∀ b, src = some b → b.rb ≠ x := fun x hx b e e2 => by have := hsrc b e; omega
      refine ⟨?_, ?_, ⟨_, ?_, isMap_empty, fun l => ?_⟩, Nat.le_refl _, fun _ _ => rfl⟩
      · rw [ghostM_at (by omega) (hne _ (by omega))]; exact h53
      · rw [ghostM_at (by omega) (hne _ (by omega))]; exact h73
      · obtain ⟨es, cl, hb, F, hsz, hD⟩ := hm3
        exact ⟨es, cl, (ghostM_at (by omega) (hne _ (by omega))).trans hb, F, hsz, hD⟩
      · simp [sumR]; rfl
    · have hne : ∀ x, w.heap.size ≤ x → ∀ b, src = some b → b.rb ≠ x := fun x hx b e e2 => by have := hsrc b e; omega
      have hwz := hin.size
      rw [ghostM_size] at hwz
      have B5 := thaw_bl (srcOk_bl hs B3) B3 (Nat.le_refl _) hin.old (by omega) hsrc
      have h75 : (thaw wn src).heap[gm + 1]? = some (.cells #[.map (some gm)] 59) := (thaw_at (hne _ (by omega))).trans hin.c7
      obtain ⟨D, hD1, _, hD3⟩ := hin.m
      have hm5 : SumsM (thaw wn src) gm n D := by
        obtain ⟨es, cl, hb, F, hsz, hD⟩ := hD1
        exact ⟨es, cl, (thaw_at (hne _ (by omega))).trans hb, F, hsz, hD⟩
      have hq := hD3 l
      rw [List.take_of_length_le (by rw [hslc.recLen]; exact Nat.le_refl _)] at hq
      simp only [Fm.fin, ops4W_2, Option.bind_some, List.setIfInBounds_toArray, List.set_cons_zero, List.set_cons_succ]
      refine JO.regEnd L hfo ?_
      refine JO.seq L hfo ?_
      refine JO.piece L (by kernel_rfl) hfo (fun T => ?_)
      have B5t := B5.tp T 0
      have h75t : (Tt.tp (thaw wn src) T 0).heap[gm + 1]? = some (.cells #[.map (some gm)] 59) := h75
      have hm5t : SumsM (Tt.tp (thaw wn src) T 0) gm n D := hm5
      refine wpWM5 hm5t h75t hcl.2 hq (fun u24 u25 u26 => ⟨rfl, ?_⟩)
      refine JO.ret L hfo ?_
      exact hback _ _ (.int .i64 (sumR (waitF l q) rs)) _ rfl B5t (by rw [hm])
end
end Go.Proofs.Ytjcpjijihajopaa
namespace Go.Proofs.Ytjcpjijihajopaa
open Go.RowKit Go.Mt Go.Conc Go.Tt Go.Maps
set_option linter.unusedVariables false
end Go.Proofs.Ytjcpjijihajopaa
namespace Go.Proofs.Ytjcpjijihajopaa
open Go.RowKit Go.Mt Go.Conc Go.Tt Go.Maps
set_option linter.unusedVariables false
end Go.Proofs.Ytjcpjijihajopaa
