/-
  What this program's numbers are of sync.WaitGroup's functions and types.
  Which functions of the program may be carried over to a goroutine in company.
  eachRecord's sender: it defers Done and close, sends every record, and leaves.
  eachRecord in goroutine 0: it ranges over what comes.
  eachRecord's beginning, in goroutine 0 alone: what it makes.
  eachRecord, from the group's making to its return: the phase.
  eachRecord, behind Add: the go statement; goroutine 0 and the sender begin.
  eachRecord, the whole phase.
  A call of eachRecord, at the law level.
-/
import Derived.Test.YtjcpjijihajopaaBas
import Derived.Test.YtjcpjijihajopaaMt7
import Derived.Test.YtjcpjijihajopaaRows
import Derived.KernelRfl
import Derived.Test.YtjcpjijihajopaaMt4
import Derived.Test.YtjcpjijihajopaaRecA
import Derived.Test.YtjcpjijihajopaaMt6
set_option linter.unusedSectionVars false
set_option linter.unusedSimpArgs false
set_option linter.unusedVariables false
namespace Go.Proofs.Ytjcpjijihajopaa
open Go.RowKit Go.Mt Go.Conc Go.Tt Go.Conc.Lib Go.ConcR.Gen
abbrev wgl : WgLink := { add := 54, done := 56, wait := 57, relMerge := 63, disable := 64, enable := 65, inBubble := 66, associate := 67, fatal := 68, uOr := 69, uAdd := 70, raceRead := 71, uLoad := 72, uStore := 73, disassociate := 74, semrelease := 75, acquire := 76, isAssociated := 77, uCas := 78, raceWrite := 79, semacquire := 80, orU64 := 86, addU64 := 87, loadU64 := 88, storeU64 := 89, casU64 := 90, tWgP := 99, tUP := 101, tAssoc := 103, tWg := 86, tAU := 83, tU64 := 81, tUint := 107, tU32 := 84, tPU32 := 108, tPAU := 125, tPU64 := 127, tNoCopy := 78, tANoCopy := 79, tAlign64 := 80 }
theorem wgLib : WgLib Try.prog wgl :=
  ⟨Try.func54, Try.func56, Try.func57, Try.func63, Try.func64, Try.func65, Try.func66, Try.func67, Try.func68, Try.func69, Try.func70, Try.func71, Try.func72, Try.func73, Try.func74, Try.func75, Try.func76, Try.func77, Try.func78, Try.func79, Try.func80, Try.func86, Try.func87, Try.func88, Try.func89, Try.func90, Try.underlying99, Try.runUnderlying99, Try.sizeOf99, Try.isAgg99, Try.zeroValue99, Try.underlying101, Try.runUnderlying101, Try.sizeOf101, Try.isAgg101, Try.zeroValue101, Try.underlying103, Try.runUnderlying103, Try.sizeOf103, Try.isAgg103, Try.zeroValue103, Try.underlying86, Try.runUnderlying86, Try.sizeOf86, Try.isAgg86, Try.zeroValue86, Try.underlying83, Try.runUnderlying83, Try.sizeOf83, Try.isAgg83, Try.zeroValue83, Try.underlying81, Try.runUnderlying81, Try.sizeOf81, Try.isAgg81, Try.zeroValue81, Try.underlying107, Try.runUnderlying107, Try.sizeOf107, Try.isAgg107, Try.zeroValue107, Try.underlying84, Try.runUnderlying84, Try.sizeOf84, Try.isAgg84, Try.zeroValue84, Try.underlying108, Try.runUnderlying108, Try.sizeOf108, Try.isAgg108, Try.zeroValue108, Try.underlying125, Try.runUnderlying125, Try.sizeOf125, Try.isAgg125, Try.zeroValue125, Try.underlying127, Try.runUnderlying127, Try.sizeOf127, Try.isAgg127, Try.zeroValue127, Try.underlying0, Try.runUnderlying0, Try.sizeOf0, Try.isAgg0, Try.zeroValue0, Try.underlying3, Try.runUnderlying3, Try.sizeOf3, Try.isAgg3, Try.zeroValue3, Try.underlying4, Try.runUnderlying4, Try.sizeOf4, Try.isAgg4, Try.zeroValue4, Try.underlying9, Try.runUnderlying9, Try.sizeOf9, Try.isAgg9, Try.zeroValue9, Try.underlying20, Try.runUnderlying20, Try.sizeOf20, Try.isAgg20, Try.zeroValue20, Try.underlying21, Try.runUnderlying21, Try.sizeOf21, Try.isAgg21, Try.zeroValue21, (by kernel_rfl), (by kernel_rfl)⟩
instance : Go.ConcR.Payload := ⟨3⟩
end Go.Proofs.Ytjcpjijihajopaa
namespace Go.Proofs.Ytjcpjijihajopaa
open Go.Mt Go.Tt
def glL : List Nat := [9, 10, 11, 13, 14, 16, 17, 19, 21, 22, 23, 24, 26, 27, 28, 29, 30, 31, 32, 33, 34, 36, 37, 38, 39, 40, 41, 42, 43, 44, 45, 46, 47, 48, 49, 50, 51, 52, 53, 58, 59, 60, 61, 62, 81, 82, 83, 84, 85, 91, 92, 93, 94, 95, 96, 97, 98, 99, 100, 101, 102, 103, 104, 105, 106, 107]
def alL : List Nat := [3, 4, 5, 6, 9, 10, 11, 12, 13, 14, 15, 16, 17, 18, 19, 20, 21, 22, 23, 24, 26, 27, 28, 29, 30, 31, 32, 33, 34, 35, 36, 37, 38, 39, 40, 41, 42, 43, 44, 45, 46, 47, 48, 49, 50, 51, 52, 53, 58, 59, 60, 61, 62, 81, 82, 83, 84, 85, 91, 92, 93, 94, 95, 96, 97, 98, 99, 100, 101, 102, 103, 104, 105, 106, 107]
def flL : List Nat := [36, 39, 46]
def olL : List Nat := [35]
abbrev gsF : FuncId → Bool := inL glL
abbrev fsF : FuncId → Bool := inL flL
theorem zeros_all : zerosOk Try.prog = true := by kernel_rfl
theorem fit_gl : glL.all (fnFit Try.prog (inL flL) (inL glL)) = true := by kernel_rfl
theorem lvF : Lv Try.prog (inL olL) (inL alL) gsF fsF :=
  lv_of zeros_all fit_gl (by kernel_rfl) (by kernel_rfl) (by kernel_rfl)
theorem fitF : Fit3 (PS Try.prog gsF) fsF := fit3_of zeros_all fit_gl
end Go.Proofs.Ytjcpjijihajopaa
namespace Go.Proofs.Ytjcpjijihajopaa
open Go.RowKit Go.Mt Go.Conc Go.Tt Go.Conc.Lib Go.ConcR.Gen
set_option linter.unusedVariables false
noncomputable def bodyEC : Code := (Try.f55.body).getD .skip
noncomputable def loopEC : Code := match bodyEC with | .seq _ (.seq _ (.seq _ (.block _ (.loop c)))) => c | _ => .skip
noncomputable def rEC0 : Code := match bodyEC with | .seq a _ => a | _ => .skip
noncomputable def rEC1 : Code := match bodyEC with | .seq _ (.seq a _) => a | _ => .skip
noncomputable def rEC2 : Code := match bodyEC with | .seq _ (.seq _ (.seq a _)) => a | _ => .skip
noncomputable def rEC3 : Code := match loopEC with | .seq a _ => a | _ => .skip
noncomputable def rEC4 : Code := match loopEC with | .seq _ (.seq _ (.seq (.block _ (.seq a _)) _)) => a | _ => .skip
noncomputable def rEC5 : Code := match loopEC with | .seq _ (.seq _ (.seq (.block _ (.seq _ a)) _)) => a | _ => .skip
noncomputable def rEC6 : Code := match loopEC with | .seq _ (.seq _ (.seq _ a)) => a | _ => .skip
theorem loopEC_eq : loopEC = .seq rEC3 (.seq (.cond (.tmp 9) .skip (.exit 0)) (.seq (.block 1 (.seq rEC4 rEC5)) rEC6)) := rfl
theorem bodyEC_eq : bodyEC = .seq rEC0 (.seq rEC1 (.seq rEC2 (.block 0 (.loop loopEC)))) := rfl
/-- What record number k is as a value. -/
def recVal (rs : List RecD) (k : Nat) : Value := ((rs[k]?).map RecD.val).getD undef
noncomputable def childCx (Wg c n : Nat) (val : Nat → Value) (Fin : Goroutine → World → Prop) (K : Pr) (St : Nat → Prop) : Cx PpL :=
  { p := Try.prog, gs := gsF, fs := fsF, ty := wgl.tWg, Wg := Wg, A := pipe c n val, Fin := Fin, main := false, base := [botF Try.prog], ds := ⟨[], .deferred, by simp⟩, K := K, St := St, I := IC wgl.tWg Wg c, pin := [(0, .pointer (some ⟨Wg, 0, none⟩))] }
/-- What the sender's ghost knows. -/
structure ChW (gc gv gr : Nat) (A : Option Addr) (n cap : Nat) (rs : List RecD) (w : World) : Prop where
  v : w.heap[gv]? = some (.cells #[.chan (some gc)] 76 (0, 1))
  r : w.heap[gr]? = some (.cells #[.slice A n cap] 25 (0, 1))
  s : Slc w 0 w.heap.size 7 A n cap (recs rs)
theorem ChW.keep {gc gv gr : Nat} {A : Option Addr} {n cap : Nat} {rs : List RecD} {w w' : World} (h : ChW gc gv gr A n cap rs w) (hb : Below w.heap.size w w') : ChW gc gv gr A n cap rs w' :=
  ⟨(blk_below hb h.v).1, (blk_below hb h.r).1, (h.s.below hb).wide (Nat.le_refl _) hb.size⟩
theorem recVal_vr {S : FuncId → Prop} {K R : Pr} {d : RecD} {v' : Value} (h : VR S K R d.val v') : v' = d.val := by
  unfold RecD.val at h ⊢
  cases h with
  | agg e h =>
    rename_i xs'
    obtain ⟨l⟩ := xs'
    have h0 := h 0
    have h1 := h 1
    have h2 := h 2
    have h3 := h 3
    have h4 := h 4
    have h5 := h 5
    have h6 := h 6
    simp only [List.size_toArray, List.length_cons, List.length_nil] at e
    match l, e with
    | [a0, a1, a2, a3, a4, a5, a6], _ =>
      simp only [List.getElem?_toArray, List.getElem?_cons_zero, List.getElem?_cons_succ, Option.some.injEq] at h0 h1 h2 h3 h4 h5 h6
      cases h0 _ _ rfl rfl; cases h1 _ _ rfl rfl; cases h2 _ _ rfl rfl; cases h3 _ _ rfl rfl; cases h4 _ _ rfl rfl; cases h5 _ _ rfl rfl; cases h6 _ _ rfl rfl
      rfl
section
variable {Q : Exit → Go.Act → World → Prop} {u0 u1 u2 u3 u4 u5 u6 u7 u8 u9 u10 u11 u12 u13 u14 : Value} {w : World}
set_option maxHeartbeats 1000000 in
theorem wpEC3 {k n : Nat} (hn : n ≤ 1048576) (hk : k ≤ n) (h : Q .normal ⟨#[u0, u1, u2, u3, u4, u5, u6, .int .i64 n, .int .i64 k, .bool (decide (k < n)), u10, u11, u12, u13, u14], []⟩ w) :
    Code.wp Try.prog rEC3 Q ⟨#[u0, u1, u2, u3, u4, u5, u6, .int .i64 n, .int .i64 k, u9, u10, u11, u12, u13, u14], []⟩ w := by
  simp only [rEC3, loopEC, bodyEC, Try.f55, Option.getD_some]
  go_wp2
  exact h
set_option maxHeartbeats 1000000 in
theorem wpEC6 {k n : Nat} (hn : n ≤ 1048576) (hk : k < n) (h : Q .normal ⟨#[u0, u1, u2, u3, u4, u5, u6, u7, .int .i64 (k + 1 : Nat), u9, u10, u11, u12, u13, .int .i64 (k + 1 : Nat)], []⟩ w) :
    Code.wp Try.prog rEC6 Q ⟨#[u0, u1, u2, u3, u4, u5, u6, u7, .int .i64 k, u9, u10, u11, u12, u13, u14], []⟩ w := by
  simp only [rEC6, loopEC, bodyEC, Try.f55, Option.getD_some]
  push_cast at h
  go_wp2
  exact h
set_option maxHeartbeats 1000000 in
theorem wpEC2 {gr n cap : Nat} {A : Option Addr} (hn : n ≤ 1048576) (hr : w.heap[gr]? = some (.cells #[.slice A n cap] 25 (0, 1))) (h : Q .normal ⟨#[u0, u1, .pointer (some ⟨gr, 0, none⟩), u3, u4, u5, .slice A n cap, .int .i64 n, .int .i64 0, u9, u10, u11, u12, u13, u14], []⟩ w) :
    Code.wp Try.prog rEC2 Q ⟨#[u0, u1, .pointer (some ⟨gr, 0, none⟩), u3, u4, u5, u6, u7, u8, u9, u10, u11, u12, u13, u14], []⟩ w := by
  have h0 := blk_cell hr 0
  simp only [rEC2, bodyEC, Try.f55, Option.getD_some]
  clear hr
  go_wp2
  exact h
set_option maxHeartbeats 1000000 in
theorem wpEC4 {b off k n cap : Nat} {d : RecD} (hn : n ≤ 1048576) (hc : n ≤ cap) (hcm : cap ≤ maxLen) (hk : k < n) (hd : RecAt w b (off + k * 7) d)
    (h : Q .normal ⟨#[u0, u1, u2, u3, .pointer (some ⟨w.heap.size, 0, none⟩), u5, .slice (some ⟨b, off, none⟩) n cap, .int .i64 n, .int .i64 k, u9, .pointer (some ⟨b, off + k * 7, none⟩), d.val, u12, u13, u14], []⟩ (w.alloc (.cells #[.int .i64 d.c, .int .i64 d.l, .int .i64 d.o, .int .i64 d.f, .int .i64 d.h, .int .i64 d.t, .string d.e] 50))) :
    Code.wp Try.prog rEC4 Q ⟨#[u0, u1, u2, u3, u4, u5, .slice (some ⟨b, off, none⟩) n cap, .int .i64 n, .int .i64 k, u9, u10, u11, u12, u13, u14], []⟩ w := by
  obtain ⟨h0, h1, h2, h3, h4, h5, h6⟩ := hd
  simp only [rEC4, loopEC, bodyEC, Try.f55, Option.getD_some]
  go_wp2
  exact h
end
theorem slc_tp {w : World} {lo hi s n c : Nat} {A : Option Addr} {xs : List Value} (h : Slc w lo hi s A n c xs) (T : Tape) (e : Nat) : Slc (Tt.tp w T e) lo hi s A n c xs := ⟨h.len, h.le, h.cap, h.at_⟩
theorem ChW.tp {gc gv gr : Nat} {A : Option Addr} {n cap : Nat} {rs : List RecD} {w : World} (h : ChW gc gv gr A n cap rs w) (T : Tape) (e : Nat) : ChW gc gv gr A n cap rs (Tt.tp w T e) := ⟨h.v, h.r, slc_tp h.s T e⟩
section
variable {Wg c n cap : Nat} {rs : List RecD} {A : Option Addr} {gc gv gr : Nat}
set_option maxHeartbeats 4000000 in
set_option maxRecDepth 100000 in
theorem each_child_loop (C : Cx PpL) (hp : C.p = Try.prog) (hgs : C.gs = gsF) (hfs : C.fs = fsF) (hA : C.A = pipe c n (recVal rs)) (hS : C.S = [0]) (hI : IOk C) (hK : C.K gc c) (hrs : rs.length = n) (hn : n ≤ 1048576) (hdone : ∀ tmps w, BO C (.sd n) ⟨55, tmps, [], true⟩ w) :
    ∀ (m k : Nat), k + m = n → ∀ (w : World) (u3 u4 u5 u9 u10 u11 u12 u13 u14 : Value), ChW gc gv gr A n cap rs w →
      BO C (.sd k) ⟨55, #[.nilFunc, .pointer (some ⟨gv, 0, none⟩), .pointer (some ⟨gr, 0, none⟩), u3, u4, u5, .slice A n cap, .int .i64 n, .int .i64 k, u9, u10, u11, u12, u13, u14], [.code loopEC, .inLoop loopEC, .inBlock 0], false⟩ w := by
  have F : Fit3 C.P C.fs := by unfold Cx.P; rw [hp, hgs, hfs]; exact fitF
  have fok : FnOk C.p 55 := ⟨_, by rw [hp]; exact Try.func55, .inl rfl⟩
  intro m
  induction m with
  | zero =>
    intro k hk w u3 u4 u5 u9 u10 u11 u12 u13 u14 hw
    obtain rfl : k = n := by omega
    rw [show Item.code loopEC = Item.code (.seq rEC3 (.seq (.cond (.tmp 9) .skip (.exit 0)) (.seq (.block 1 (.seq rEC4 rEC5)) rEC6))) from congrArg _ loopEC_eq]
    refine BO.seq hI ?_
    refine BO.piece F hI (by rw [hp, hfs, hgs]; kernel_rfl) fok (by rw [hS]; kernel_rfl) (fun T => ?_)
    rw [hp]
    refine wpEC3 hn (Nat.le_refl _) ⟨rfl, ?_⟩
    refine BO.seq hI ?_
    refine BO.cond hI (t := false) rfl (by simp [Go.Act.eval]) ?_
    exact BO.exit hI (k' := []) rfl (BO.fall hI (hdone _ _))
  | succ m ih =>
    intro k hk w u3 u4 u5 u9 u10 u11 u12 u13 u14 hw
    have hlt : k < n := by omega
    rw [show Item.code loopEC = Item.code (.seq rEC3 (.seq (.cond (.tmp 9) .skip (.exit 0)) (.seq (.block 1 (.seq rEC4 rEC5)) rEC6))) from congrArg _ loopEC_eq]
    refine BO.seq hI ?_
    refine BO.piece F hI (by rw [hp, hfs, hgs]; kernel_rfl) fok (by rw [hS]; kernel_rfl) (fun T => ?_)
    rw [hp]
    refine wpEC3 hn (by omega) ⟨rfl, ?_⟩
    replace hw := hw.tp T 0
    generalize Tt.tp w T 0 = w1 at hw ⊢
    refine BO.seq hI ?_
    refine BO.cond hI (t := true) rfl (by simp [Go.Act.eval, hlt]) ?_
    refine BO.skip hI ?_
    refine BO.seq hI ?_
    refine BO.block hI ?_
    refine BO.seq hI ?_
    obtain ⟨b, off, d, rfl, _, _, hb3, hdk, hd⟩ := hw.s.recAt hlt
    refine BO.piece F hI (by rw [hp, hfs, hgs]; kernel_rfl) fok (by rw [hS]; kernel_rfl) (fun T => ?_)
    rw [hp]
    replace hw := hw.tp T 0
    have hd' : RecAt (Tt.tp w1 T 0) b (off + k * 7) d := ⟨hd.c0, hd.c1, hd.c2, hd.c3, hd.c4, hd.c5, hd.c6⟩
    clear hd
    generalize Tt.tp w1 T 0 = w2 at hw hd' ⊢
    refine wpEC4 hn hw.s.le hw.s.cap hlt hd' ⟨rfl, ?_⟩
    generalize hcs : (#[.int .i64 d.c, .int .i64 d.l, .int .i64 d.o, .int .i64 d.f, .int .i64 d.h, .int .i64 d.t, .string d.e] : Array Value) = cs
    have hw3 := hw.keep (w' := w2.alloc (.cells cs 50)) (below_al (Below.refl _ _) _)
    have hr : (w2.alloc (.cells cs 50)).heap[w2.heap.size]? = some (.cells cs 50) := heap_alloc_new _ _
    generalize w2.heap.size = N at hr ⊢
    generalize w2.alloc (.cells cs 50) = w3 at hw3 hr ⊢
    clear hw hd'
    generalize hk0 : (Item.inBlock 1 :: Item.code rEC6 :: Item.inLoop loopEC :: [Item.inBlock 0]) = K0
    simp only [rEC5, loopEC, bodyEC, Try.f55, Option.getD_some]
    refine BO.regs hI [0, 1, 2] rfl ?_
    refine BO.op F hI (o := _) rfl rfl (by rw [hp, hfs, hgs]; kernel_rfl) (by intro s hs; rw [hS]; cases hs; decide) (fun T => ⟨.chan (some gc), Tt.tp w3 T 0, .inl ?_, ?_⟩)
    · rw [hp]
      exact exec_load1 (a := ⟨gv, 0, none⟩) rfl rfl (Try.isAgg76 _) (blk_cell (hw3.tp T 0).v 0)
    replace hw3 := hw3.tp T 0
    have hr' : (Tt.tp w3 T 0).heap[N]? = some (.cells cs 50) := hr
    clear hr
    generalize Tt.tp w3 T 0 = w4 at hw3 hr' ⊢
    refine BO.op F hI (o := _) rfl rfl (by rw [hp, hfs, hgs]; kernel_rfl) (by intro s hs; rw [hS]; cases hs; decide) (fun T => ⟨.agg cs, Tt.tp w4 T 0, .inl ?_, ?_⟩)
    · rw [hp]
      exact exec_loadRow (g := N) (T := 50) (fr := (0, 0)) rfl rfl hr' Try.underlying50 rfl (by rw [← hcs]; kernel_rfl)
    replace hw3 := hw3.tp T 0
    generalize Tt.tp w4 T 0 = w5 at hw3 ⊢
    have hact : C.A.act (.sd k) = .send c (fun v => v = recVal rs k) (fun _ => []) (fun _ => .sd (k + 1)) := by rw [hA]; show pipeAct c n (recVal rs) (.sd k) = _; simp only [pipeAct, hlt, if_true]
    refine BO.send hI (o := _) (g := gc) (l' := .sd (k + 1)) rfl rfl rfl rfl rfl hK rfl (by intro s hs; cases hs) hact (fun R v' hv => ⟨?_, rfl, rfl⟩) ?_
    · have hv2 : VR (SF C.fs) C.K R d.val v' := by rw [show d.val = .agg cs by rw [← hcs]; rfl]; exact hv
      rw [recVal_vr hv2]
      unfold recVal; rw [hdk]; rfl
    refine BO.regEnd hI ?_
    subst hk0
    refine BO.inBlock hI ?_
    refine BO.piece F hI (by rw [hp, hfs, hgs]; kernel_rfl) fok (by rw [hS]; kernel_rfl) (fun T => ?_)
    rw [hp]
    refine wpEC6 hn hlt ⟨rfl, ?_⟩
    refine BO.inLoop hI ?_
    exact ih (k + 1) (by omega) _ _ _ _ _ _ _ _ _ _ (hw3.tp T 0)
set_option maxHeartbeats 4000000 in
set_option maxRecDepth 100000 in
theorem each_child {Fin : Goroutine → World → Prop} {K : Pr} {St : Nat → Prop} (hK : K gc c) (hrs : rs.length = n) (hn : n ≤ 1048576) {w : World} (hw : ChW gc gv gr A n cap rs w) :
    BO (childCx Wg c n (recVal rs) Fin K St) (.sd 0) ⟨55, #[.nilFunc, .pointer (some ⟨gv, 0, none⟩), .pointer (some ⟨gr, 0, none⟩), undef, undef, undef, undef, undef, undef, undef, undef, undef, undef, undef, undef], [.code bodyEC], false⟩ w := by
  let C := childCx Wg c n (recVal rs) Fin K St
  have hI : IOk C := ic_ok rfl
  let d1 := dcall 56 #[.pointer (some ⟨Wg, 0, none⟩)]
  let d2 := closeD #[76] 0 #[false] c
  have hI1 : IOk (C.dfr d1) := hI.dfr d1
  have hI2 : IOk ((C.dfr d1).dfr d2) := hI1.dfr d2
  have F : Fit3 C.P C.fs := fitF
  have fok : FnOk C.p 55 := ⟨_, Try.func55, .inl rfl⟩
  show BO C _ _ _
  rw [bodyEC_eq]
  refine BO.seq hI ?_
  generalize hk0 : (Item.code (rEC1.seq (rEC2.seq (Code.block 0 loopEC.loop))) :: ([] : List Item)) = K0
  simp only [rEC0, bodyEC, Try.f55, Option.getD_some]
  refine BO.regs hI [0] rfl ?_
  refine BO.defer hI (d := d1) (o := _) rfl rfl rfl (fun R w W tmps' _ _ hpin W₁ => ?_) ?_
  · have h0 := hpin (0, .pointer (some ⟨Wg, 0, none⟩)) (by show _ ∈ [_]; simp)
    have := exec_deferF (p := C.p) (o := ⟨none, .defer { callee := .value (.func 56), args := #[.tmp 0], argTypes := #[86] }, 0, "l8_bills.go:68", #[], none⟩) (ρ := (Go.Act.mk tmps' C.ds.ds).eval) rfl rfl W₁
    simp only [List.map_toArray, List.map_cons, List.map_nil, Go.Act.eval] at this
    simp only at h0
    rw [h0] at this
    exact this
  refine BO.regEnd hI1 ?_
  subst hk0
  refine BO.seq hI1 ?_
  generalize hk0 : (Item.code (rEC2.seq (Code.block 0 loopEC.loop)) :: ([] : List Item)) = K0
  simp only [rEC1, bodyEC, Try.f55, Option.getD_some]
  refine BO.regs hI1 [0, 1] rfl ?_
  refine BO.op (C := C.dfr d1) F hI1 (o := _) rfl rfl (by kernel_rfl) (by intro s hs; cases hs; show (5 : Nat) ∉ ([0] : List Nat); decide) (fun T => ⟨.chan (some gc), Tt.tp w T 0, .inl ?_, ?_⟩)
  · exact exec_load1 (a := ⟨gv, 0, none⟩) rfl rfl (Try.isAgg76 _) (blk_cell (hw.tp T 0).v 0)
  replace hw := hw.tp T 0
  generalize Tt.tp w T 0 = w1 at hw ⊢
  refine BO.defer hI1 (d := d2) (o := _) rfl rfl rfl (fun R w W tmps' hrel ha _ W₁ => ?_) ?_
  · have h5 := ha.getD 5 (vr_undef (S := SF C.fs) (K := K) (R := R))
    have h5' : tmps'.getD 5 undef = .chan (some c) := chan_rel (C := C.dfr d1) hrel hK h5
    have := exec_deferC (p := C.p) (o := ⟨none, .defer { callee := .builtin .close, args := #[.tmp 5], argTypes := #[76] }, 0, "l8_bills.go:69", #[{ on := 0, ground := Ground.data }], none⟩) (ρ := (Go.Act.mk tmps' (C.dfr d1).ds.ds).eval) (c := c) rfl h5' W₁
    exact this
  refine BO.regEnd hI2 ?_
  subst hk0
  refine BO.seq hI2 ?_
  refine BO.piece (C := (C.dfr d1).dfr d2) F hI2 (by kernel_rfl) fok (by kernel_rfl) (fun T => ?_)
  replace hw := hw.tp T 0
  generalize Tt.tp w1 T 0 = w2 at hw ⊢
  refine wpEC2 hn hw.r ⟨rfl, ?_⟩
  refine BO.block hI2 ?_
  refine BO.loop hI2 ?_
  refine each_child_loop ((C.dfr d1).dfr d2) rfl rfl rfl rfl rfl hI2 hK hrs hn (fun tmps w => ?_) n 0 (by omega) _ _ _ _ _ _ _ _ _ _ hw
  intro R W m' τ hr hm ht hi
  obtain ⟨fn', tmps', todo', ret'⟩ := m'
  obtain rfl := hm.fn
  obtain rfl := hm.todo
  obtain rfl := hm.ret
  rw [fx_ret]
  have hi' : IC wgl.tWg Wg c R τ W := hi
  exact child_end wgLib (A := pipe c n (recVal rs)) (l := .sd n) (nx := .dn) (by show pipeAct c n _ (.sd n) = _; simp [pipeAct]) rfl (fun _ => trivial) Try.func55 rfl rfl hi'.pass hi'.live tmps' [] #[76] 0 #[false]
end
end Go.Proofs.Ytjcpjijihajopaa
namespace Go.Proofs.Ytjcpjijihajopaa
open Go.RowKit Go.Mt Go.Conc Go.Tt Go.Conc.Lib Go.ConcR.Gen
set_option linter.unusedVariables false
noncomputable def bodyEM : Code := (Try.f35.body).getD .skip
noncomputable def rEM0 : Code := match bodyEM with | .seq a _ => a | _ => .skip
noncomputable def rEM1 : Code := match bodyEM with | .seq _ (.seq a _) => a | _ => .skip
noncomputable def rEM2 : Code := match bodyEM with | .seq _ (.seq _ (.seq a _)) => a | _ => .skip
noncomputable def rEM3 : Code := match bodyEM with | .seq _ (.seq _ (.seq _ (.seq a _))) => a | _ => .skip
noncomputable def rEM4 : Code := match bodyEM with | .seq _ (.seq _ (.seq _ (.seq _ (.seq a _)))) => a | _ => .skip
noncomputable def rEM5 : Code := match bodyEM with | .seq _ (.seq _ (.seq _ (.seq _ (.seq _ (.seq (.seq a _) _))))) => a | _ => .skip
noncomputable def rEM9 : Code := match bodyEM with | .seq _ (.seq _ (.seq _ (.seq _ (.seq _ (.seq _ a))))) => a | _ => .skip
noncomputable def loopEM : Code := match bodyEM with | .seq _ (.seq _ (.seq _ (.seq _ (.seq _ (.seq (.seq _ (.block _ (.loop a))) _))))) => a | _ => .skip
noncomputable def rEM6 : Code := match loopEM with | .seq a _ => a | _ => .skip
noncomputable def rEM7 : Code := match loopEM with | .seq _ (.seq _ (.block _ (.seq a _))) => a | _ => .skip
noncomputable def rEM8 : Code := match loopEM with | .seq _ (.seq _ (.block _ (.seq _ a))) => a | _ => .skip
theorem loopEM_eq : loopEM = .seq rEM6 (.seq (.cond (.tmp 12) .skip (.exit 0)) (.block 1 (.seq rEM7 rEM8))) := rfl
theorem bodyEM_eq : bodyEM = .seq rEM0 (.seq rEM1 (.seq rEM2 (.seq rEM3 (.seq rEM4 (.seq (.seq rEM5 (.block 0 (.loop loopEM))) rEM9))))) := rfl
/-- What is held of the ghost from round to round. -/
structure EachI (f : FuncId) (cap : Array Value) (rs : List RecD) (I : Nat → World → Prop) : Prop where
  tape : ∀ k w T e, I k w → I k (Tt.tp w T e)
  al : ∀ k w cs T, I k w → I k (w.alloc (.cells cs T))
  step : ∀ k w d, rs[k]? = some d → I k w → Calls Try.prog f (#[d.val] ++ cap) w (fun e w' => ∃ v, e = .returned v ∧ I (k + 1) w')
section
variable {Q : Exit → Go.Act → World → Prop} {u0 u1 u2 u3 u4 u5 u6 u7 u8 u9 u10 u11 u12 u13 u14 u15 u16 u17 : Value} {w : World}
set_option maxHeartbeats 1000000 in
theorem wpEM7 {d : RecD} (h : Q .normal ⟨#[u0, u1, u2, u3, u4, u5, .pointer (some ⟨w.heap.size, 0, none⟩), u7, u8, u9, u10, .tuple #[d.val, .bool true], u12, d.val, u14, u15, u16, u17], []⟩ (w.alloc (.cells #[.int .i64 d.c, .int .i64 d.l, .int .i64 d.o, .int .i64 d.f, .int .i64 d.h, .int .i64 d.t, .string d.e] 50))) :
    Code.wp Try.prog rEM7 Q ⟨#[u0, u1, u2, u3, u4, u5, u6, u7, u8, u9, u10, .tuple #[d.val, .bool true], u12, u13, u14, u15, u16, u17], []⟩ w := by
  unfold RecD.val at h ⊢
  simp only [rEM7, loopEM, bodyEM, Try.f35, Option.getD_some]
  go_wp2
  exact h
end
section
variable {c n cap : Nat} {rs : List RecD} {gc gv : Nat} {f : FuncId} {capt : Array Value} {I : Nat → World → Prop}
theorem recVal_at {rs : List RecD} {k : Nat} {d : RecD} (h : rs[k]? = some d) : recVal rs k = d.val := by unfold recVal; rw [h]; rfl
theorem recD_vr (d : RecD) {S : FuncId → Prop} {K R : Pr} : VR S K R d.val d.val := by
  unfold RecD.val
  exact .agg' (((((((ArR.empty.push (.int _ _)).push (.int _ _)).push (.int _ _)).push (.int _ _)).push (.int _ _)).push (.int _ _)).push (.string _))
set_option maxHeartbeats 4000000 in
set_option maxRecDepth 100000 in
theorem each_main_loop (C : Cx PpL) (hp : C.p = Try.prog) (hgs : C.gs = gsF) (hfs : C.fs = fsF) (hA : C.A = pipe c n (recVal rs)) (hS : C.S = [5]) (hI : IOk C) (hK : C.K gc c) (hrs : rs.length = n) (E : EachI f capt rs I) (hf : gsF f = true)
    (hwait : ∀ tmps w, I n w → BO C .wt ⟨35, tmps, [.code rEM9], false⟩ w) :
    ∀ (m k : Nat), k + m = n → ∀ (w : World) (u0 u2 u3 u6 u7 u8 u9 u11 u12 u13 u14 u15 u16 u17 : Value), I k w →
      BO C (.rv k) ⟨35, #[u0, .func (.func f) #[] capt, u2, u3, .pointer (some ⟨gv, 0, none⟩), .nilFunc, u6, u7, u8, u9, .chan (some gc), u11, u12, u13, u14, u15, u16, u17], [.code loopEM, .inLoop loopEM, .inBlock 0, .code rEM9], false⟩ w := by
  have F : Fit3 C.P C.fs := by unfold Cx.P; rw [hp, hgs, hfs]; exact fitF
  have fok : FnOk C.p 35 := ⟨_, by rw [hp]; exact Try.func35, .inl rfl⟩
  have hz0 : (Try.prog.info? 50).map (fun i => i.zero) = some (some (RecD.val ⟨0, 0, 0, 0, 0, 0, ⟨#[]⟩⟩)) := by kernel_rfl
  obtain ⟨ie, hie, hz⟩ := Option.map_eq_some_iff.1 hz0
  have hie' : C.p.info? 50 = some ie := by rw [hp]; exact hie
  have hct : C.p.underlying 76 = some (.chan .both 50) := by rw [hp]; exact Try.underlying76
  have ext : ∀ (a b : Value) (W : World), (Instr.extract (.tuple #[a, b]) 1).run Try.prog W = .ok b W := fun a b W => by simp [Instr.extract, go_sem]
  intro m
  induction m with
  | zero =>
    intro k hk w u0 u2 u3 u6 u7 u8 u9 u11 u12 u13 u14 u15 u16 u17 hw
    obtain rfl : k = n := by omega
    rw [show Item.code loopEM = Item.code (.seq rEM6 (.seq (.cond (.tmp 12) .skip (.exit 0)) (.block 1 (.seq rEM7 rEM8)))) from congrArg _ loopEM_eq]
    refine BO.seq hI ?_
    generalize hk0 : (Item.code (.seq (.cond (.tmp 12) .skip (.exit 0)) (.block 1 (.seq rEM7 rEM8))) :: Item.inLoop loopEM :: Item.inBlock 0 :: [Item.code rEM9]) = K0
    simp only [rEM6, loopEM, bodyEM, Try.f35, Option.getD_some]
    refine BO.regs hI [0, 1] rfl ?_
    have hact : C.A.act (.rv k) = .recv c (fun v => k < k ∧ v = recVal rs k) (fun _ => .rv (k + 1)) .wt := by rw [hA]; rfl
    refine BO.recv hI (o := _) (g := gc) rfl rfl rfl hct hie' hz (fun R => recD_vr _) rfl rfl hK (by intro s hs; rw [hS]; cases hs; decide) hact (fun v hv => absurd hv.1 (Nat.lt_irrefl _)) (fun _ => ?_)
    refine BO.op F hI (o := _) rfl rfl (by rw [hp, hfs, hgs]; kernel_rfl) (by intro s hs; rw [hS]; cases hs; decide) (fun T => ⟨.bool false, Tt.tp w T 0, .inl ?_, ?_⟩)
    · rw [hp]
      have := ext (RecD.val ⟨0, 0, 0, 0, 0, 0, ⟨#[]⟩⟩) (.bool false) (Tt.tp w T 0)
      show Sem.run _ (Sem.bind (Instr.extract (.tuple #[RecD.val ⟨0, 0, 0, 0, 0, 0, ⟨#[]⟩⟩, .bool false]) 1) (fun v => Sem.pure (Next.value v))) _ = _
      rw [Sem.run_bind', this]; rfl
    refine BO.regEnd hI ?_
    subst hk0
    refine BO.seq hI ?_
    refine BO.cond hI (t := false) rfl rfl ?_
    exact BO.exit hI (k' := [.code rEM9]) rfl (hwait _ _ (E.tape _ _ _ _ hw))
  | succ m ih =>
    intro k hk w u0 u2 u3 u6 u7 u8 u9 u11 u12 u13 u14 u15 u16 u17 hw
    have hlt : k < n := by omega
    obtain ⟨d, hd⟩ : ∃ d, rs[k]? = some d := ⟨rs[k], List.getElem?_eq_getElem (by omega)⟩
    rw [show Item.code loopEM = Item.code (.seq rEM6 (.seq (.cond (.tmp 12) .skip (.exit 0)) (.block 1 (.seq rEM7 rEM8)))) from congrArg _ loopEM_eq]
    refine BO.seq hI ?_
    generalize hk0 : (Item.code (.seq (.cond (.tmp 12) .skip (.exit 0)) (.block 1 (.seq rEM7 rEM8))) :: Item.inLoop loopEM :: Item.inBlock 0 :: [Item.code rEM9]) = K0
    simp only [rEM6, loopEM, bodyEM, Try.f35, Option.getD_some]
    refine BO.regs hI [0, 1] rfl ?_
    have hact : C.A.act (.rv k) = .recv c (fun v => k < n ∧ v = recVal rs k) (fun _ => .rv (k + 1)) .wt := by rw [hA]; rfl
    refine BO.recv hI (o := _) (g := gc) rfl rfl rfl hct hie' hz (fun R => recD_vr _) rfl rfl hK (by intro s hs; rw [hS]; cases hs; decide) hact (fun v hv => ⟨d.val, fun R => ?_, ?_⟩) (fun hcl => ?_)
    · rw [hv.2, recVal_at hd]; exact recD_vr d
    rotate_left
    · exfalso
      rw [hA] at hcl
      have hcl' : PpL.rv k = PpL.rv n := hcl
      cases hcl'
      omega
    refine BO.op F hI (o := _) rfl rfl (by rw [hp, hfs, hgs]; kernel_rfl) (by intro s hs; rw [hS]; cases hs; decide) (fun T => ⟨.bool true, Tt.tp w T 0, .inl ?_, ?_⟩)
    · rw [hp]
      have := ext d.val (.bool true) (Tt.tp w T 0)
      show Sem.run _ (Sem.bind (Instr.extract (.tuple #[d.val, .bool true]) 1) (fun v => Sem.pure (Next.value v))) _ = _
      rw [Sem.run_bind', this]; rfl
    replace hw := E.tape _ _ T 0 hw
    generalize Tt.tp w T 0 = w1 at hw ⊢
    refine BO.regEnd hI ?_
    subst hk0
    refine BO.seq hI ?_
    refine BO.cond hI (t := true) rfl rfl ?_
    refine BO.skip hI ?_
    refine BO.block hI ?_
    refine BO.seq hI ?_
    refine BO.piece F hI (by rw [hp, hfs, hgs]; kernel_rfl) fok (by rw [hS]; kernel_rfl) (fun T => ?_)
    rw [hp]
    replace hw := E.tape _ _ T 0 hw
    generalize Tt.tp w1 T 0 = w2 at hw ⊢
    refine wpEM7 ⟨rfl, ?_⟩
    generalize hcs : (#[.int .i64 d.c, .int .i64 d.l, .int .i64 d.o, .int .i64 d.f, .int .i64 d.h, .int .i64 d.t, .string d.e] : Array Value) = cs
    have hr : (w2.alloc (.cells cs 50)).heap[w2.heap.size]? = some (.cells cs 50) := heap_alloc_new _ _
    replace hw := E.al _ _ cs 50 hw
    generalize w2.heap.size = N at hr ⊢
    generalize w2.alloc (.cells cs 50) = w3 at hw hr ⊢
    generalize hk0 : (Item.inBlock 1 :: Item.inLoop loopEM :: Item.inBlock 0 :: [Item.code rEM9]) = K0
    simp only [rEM8, loopEM, bodyEM, Try.f35, Option.getD_some]
    refine BO.regs hI [0, 1, 2] rfl ?_
    refine BO.op F hI (o := _) rfl rfl (by rw [hp, hfs, hgs]; kernel_rfl) (by intro s hs; rw [hS]; cases hs; decide) (fun T => ⟨.func (.func f) #[] capt, Tt.tp w3 T 0, .inl rfl, ?_⟩)
    replace hw := E.tape _ _ T 0 hw
    have hr' : (Tt.tp w3 T 0).heap[N]? = some (.cells cs 50) := hr
    clear hr
    generalize Tt.tp w3 T 0 = w4 at hw hr' ⊢
    refine BO.op F hI (o := _) rfl rfl (by rw [hp, hfs, hgs]; kernel_rfl) (by intro s hs; rw [hS]; cases hs; decide) (fun T => ⟨.agg cs, Tt.tp w4 T 0, .inl ?_, ?_⟩)
    · rw [hp]
      exact exec_loadRow (g := N) (T := 50) (fr := (0, 0)) rfl rfl hr' Try.underlying50 rfl (by rw [← hcs]; kernel_rfl)
    replace hw := E.tape _ _ T 0 hw
    generalize Tt.tp w4 T 0 = w5 at hw ⊢
    refine BO.callL F hI (o := _) (x := .tmp 14) (f := f) (first := #[]) (cap := capt) rfl rfl rfl (.dyn rfl rfl) (by simp [okX]) (by rw [hgs]; exact hf) (by intro s hs; rw [hS]; cases hs; decide) (Q := fun _ w' => I (k + 1) w') (fun _ _ _ _ h => E.tape _ _ _ _ h) (fun T => ?_) (fun v w' hQ => ?_)
    · rw [hp]
      have := E.step k (Tt.tp w5 T 0) d hd (E.tape _ _ _ _ hw)
      have e : d.val = .agg cs := by rw [← hcs]; rfl
      rw [e] at this
      simpa [Go.Act.put, Go.Act.eval] using this
    refine BO.regEnd hI ?_
    subst hk0
    refine BO.inBlock hI ?_
    refine BO.inLoop hI ?_
    exact ih (k + 1) (by omega) _ _ _ _ _ _ _ _ _ _ _ _ _ _ _ hQ
end
end Go.Proofs.Ytjcpjijihajopaa
namespace Go.Proofs.Ytjcpjijihajopaa
open Go.RowKit Go.Mt Go.Conc Go.Tt Go.Conc.Lib Go.ConcR.Gen
set_option linter.unusedVariables false
/-- The world behind the beginning. -/
structure St4 (W W4 : World) (v1 : Value) : Prop where
  size : W4.heap.size = W.heap.size + 4
  keep : ∀ b, b < W.heap.size → W4.heap[b]? = W.heap[b]?
  b0 : W4.heap[W.heap.size]? = some (.cells #[v1] 25)
  b1 : W4.heap[W.heap.size + 1]? = some (.chan 0 #[] false 0 0 false)
  b2 : W4.heap[W.heap.size + 2]? = some (.cells #[.chan (some (W.heap.size + 1))] 76)
  b3 : Go.ConcR.WgAt 86 (W.heap.size + 3) W4 0 0
  os : W4.os = W.os
  tape : W4.tape = W.tape
  output : W4.output = W.output
set_option maxHeartbeats 4000000 in
set_option maxRecDepth 100000 in
theorem each_start {Post : Value → World → Prop} {Shun : Loc → Prop} {W : World} {A : Option Addr} {n cap : Nat} {v2 : Value} {CS : List Frame} (hsh : ∀ l b, onB l b → W.heap.size ≤ b → ¬ Shun l)
    (h : ∀ W4, St4 W W4 (.slice A n cap) → J Try.prog Post Shun (W.heap.size + 3) (G ((Conc.base 35).at ⟨#[.slice A n cap, v2, .pointer (some ⟨W.heap.size, 0, none⟩), undef, .pointer (some ⟨W.heap.size + 2, 0, none⟩), .pointer (some ⟨W.heap.size + 3, 0, none⟩), undef, .chan (some (W.heap.size + 1)), undef, undef, undef, undef, undef, undef, undef, undef, undef, undef], []⟩
      [.code rEM3, .code (.seq rEM4 (.seq (.seq rEM5 (.block 0 (.loop loopEM))) rEM9))]) CS) W4) :
    J Try.prog Post Shun W.heap.size (G (Frame.enter Try.prog 35 #[.slice A n cap, v2] .normal) CS) W := by
  obtain ⟨ie, hie⟩ : ∃ ie, Try.prog.info? 50 = some ie := Option.isSome_iff_exists.1 (by kernel_rfl)
  have hent : Frame.enter Try.prog 35 #[.slice A n cap, v2] .normal = (Conc.base 35).at ⟨#[.slice A n cap, v2, undef, undef, undef, undef, undef, undef, undef, undef, undef, undef, undef, undef, undef, undef, undef, undef], []⟩ [.code bodyEM] := Conc.enter_at _ Try.func35 rfl
  rw [hent, bodyEM_eq]
  have start : ∀ d, J Try.prog Post Shun W.heap.size (G ((Conc.base 35).at ⟨#[.slice A n cap, v2, undef, undef, undef, undef, undef, undef, undef, undef, undef, undef, undef, undef, undef, undef, undef, undef], []⟩ [.code (.seq rEM0 (.seq rEM1 (.seq rEM2 (.seq rEM3 (.seq rEM4 (.seq (.seq rEM5 (.block 0 (.loop loopEM))) rEM9))))))]) CS) (W.at d) := by
    generalize hk0 : Code.seq rEM4 (.seq (.seq rEM5 (.block 0 (.loop loopEM))) rEM9) = K0 at h
    refine J.sil rfl (fun w => stepG_seq) ?_
    generalize hk1 : Code.seq rEM1 (.seq rEM2 (.seq rEM3 K0)) = K1
    simp only [rEM0, bodyEM, Try.f35, Option.getD_some]
    refine J.sil rfl (fun w => stepG_region) ?_
    refine J.opv (o := _) (v := .pointer (some ⟨W.heap.size, 0, none⟩)) (w' := W.alloc (.cells #[.slice A n cap] 25)) rfl rfl (by decide) (fun d => .inl ?_) (fun d e he => ?_) (by rw [size_push]; omega) ?_
    · show _ = Result.ok _ ((W.at d).alloc _)
      have hz : (W.at d).heap.size = W.heap.size := rfl
      rw [← hz]
      simp [execOp, go_sem, Go.Act.eval]
    · simp [execOp, go_sem, Go.Act.eval] at he
    generalize hW1 : W.alloc (.cells #[.slice A n cap] 25) = W1
    have s1 : W1.heap.size = W.heap.size + 1 := by rw [← hW1, size_push]
    refine J.sil rfl (fun w => stepG_region_end) ?_
    subst hk1
    refine J.sil rfl (fun w => stepG_seq) ?_
    generalize hk1 : Code.seq rEM2 (.seq rEM3 K0) = K1
    simp only [rEM1, bodyEM, Try.f35, Option.getD_some]
    refine J.sil rfl (fun w => stepG_region) ?_
    refine J.opv (o := _) (v := .chan (some (W.heap.size + 1))) (w' := W1.alloc (.chan 0 #[] false 0 0 false)) rfl rfl (by decide) (fun d => .inl ?_) (fun d e he => ?_) (by rw [size_push]; omega) ?_
    · show _ = Result.ok _ ((W1.at d).alloc _)
      have hz : (W1.at d).heap.size = W.heap.size + 1 := s1
      rw [← hz]
      have hm : (Instr.makeChan 76 (.int .i64 0)).run Try.prog (W1.at d) = _ := run_makeChan (P := Try.prog) (w := W1.at d) Try.underlying76 hie .i64 0 (by omega) (by omega)
      exact run_bv hm
    · have hm : (Instr.makeChan 76 (.int .i64 0)).run Try.prog (W1.at d) = _ := run_makeChan (P := Try.prog) (w := W1.at d) Try.underlying76 hie .i64 0 (by omega) (by omega)
      have hv := events_makeChan (P := Try.prog) (w := W1.at d) Try.underlying76 hie .i64 0 (by omega) (by omega) #[]
      have := ev_bv hm hv
      rw [show Sem.events _ (execOp _ _) _ _ = #[] from this] at he
      simp at he
    generalize hW2 : W1.alloc (.chan 0 #[] false 0 0 false) = W2
    have s2 : W2.heap.size = W.heap.size + 2 := by rw [← hW2, size_push, s1]
    refine J.opv (o := _) (v := .pointer (some ⟨W.heap.size + 2, 0, none⟩)) (w' := W2.alloc (.cells #[.chan none] 76)) rfl rfl (by decide) (fun d => .inl ?_) (fun d e he => ?_) (by rw [size_push]; omega) ?_
    · show _ = Result.ok _ ((W2.at d).alloc _)
      have hz : (W2.at d).heap.size = W.heap.size + 2 := s2
      rw [← hz]
      simp [execOp, go_sem, Go.Act.eval]
    · simp [execOp, go_sem, Go.Act.eval] at he
    generalize hW3 : W2.alloc (.cells #[.chan none] 76) = W3
    have s3 : W3.heap.size = W.heap.size + 3 := by rw [← hW3, size_push, s2]
    have hb2 : W3.heap[W.heap.size + 2]? = some (.cells #[.chan none] 76) := by rw [← hW3, ← s2]; exact heap_push _ _
    refine J.opv (o := _) (v := undef) (w' := W3.setCell ⟨W.heap.size + 2, 0, none⟩ (.chan (some (W.heap.size + 1)))) rfl rfl (by decide) (fun d => .inr ⟨?_, rfl⟩) (fun d e he => ?_) (by rw [setCell_size]; omega) ?_
    · have hc := blk_cell (w := W3.at d) hb2 0
      have hf := blk_frozen' (w := W3.at d) hb2 0
      show _ = Result.ok _ ((W3.at d).setCell _ _)
      simp [execOp, go_sem, Go.Act.eval, Go.Act.put, stored, hc, hf]
    · have hc := blk_cell (w := W3.at d) hb2 0
      have hf := blk_frozen' (w := W3.at d) hb2 0
      simp [execOp, go_sem, Go.Act.eval, Go.Act.put, storedEv, hc, hf] at he
      subst he
      exact evL_own (hsh _ (W.heap.size + 2) rfl (by omega)) (by rw [setCell_size, s3]; show W.heap.size + 2 < _; omega)
    have hb2' := blk_setCell hb2 (.chan (some (W.heap.size + 1))) (i := 0)
    have hW4k : ∀ b, b ≠ W.heap.size + 2 → (W3.setCell ⟨W.heap.size + 2, 0, none⟩ (.chan (some (W.heap.size + 1)))).heap[b]? = W3.heap[b]? := fun b hb => setCell_ne W3 _ _ hb
    have hW4s : (W3.setCell ⟨W.heap.size + 2, 0, none⟩ (.chan (some (W.heap.size + 1)))).heap.size = W.heap.size + 3 := by rw [setCell_size, s3]
    have hA := aside_setCell W3 ⟨W.heap.size + 2, 0, none⟩ (.chan (some (W.heap.size + 1)))
    generalize hW4 : W3.setCell ⟨W.heap.size + 2, 0, none⟩ (.chan (some (W.heap.size + 1))) = W4 at hb2' hW4k hW4s hA ⊢
    refine J.sil rfl (fun w => stepG_region_end) ?_
    subst hk1
    refine J.sil rfl (fun w => stepG_seq) ?_
    simp only [rEM2, bodyEM, Try.f35, Option.getD_some]
    refine J.sil rfl (fun w => stepG_region) ?_
    rw [hW4s]
    refine J.opq (o := _) (v := .pointer (some ⟨W.heap.size + 3, 0, none⟩)) (w' := W4.alloc (.cells #[.int .u64 0, .int .u32 0] 86)) rfl rfl (by decide) (fun d => ?_) (fun d e he => ?_) ?_
    · show _ = Result.ok _ ((W4.at d).alloc _)
      have hz : (W4.at d).heap.size = W.heap.size + 3 := hW4s
      rw [← hz]
      simp [execOp, go_sem, Go.Act.eval]
    · simp [execOp, go_sem, Go.Act.eval] at he
    refine J.sil rfl (fun w => stepG_region_end) ?_
    refine J.sil rfl (fun w => stepG_seq) ?_
    subst hk0
    intro d
    have k1 : ∀ b, b < W.heap.size + 1 → W4.heap[b]? = W1.heap[b]? := fun b hb => by
      rw [hW4k b (by omega), ← hW3, heap_push_lt (by rw [s2]; omega), ← hW2, heap_push_lt (by rw [s1]; omega)]
    have hst : St4 W ((W4.alloc (.cells #[.int .u64 0, .int .u32 0] 86)).at d) (.slice A n cap) := by
     refine ⟨?_, fun b hb => ?_, ?_, ?_, ?_, ?_, ?_, ?_, ?_⟩
     · show (W4.alloc _).heap.size = _
       rw [size_push, hW4s]
     · show (W4.alloc _).heap[b]? = _
       rw [heap_push_lt (by rw [hW4s]; omega), k1 b (by omega), ← hW1, heap_push_lt hb]
     · show (W4.alloc _).heap[_]? = _
       rw [heap_push_lt (by rw [hW4s]; omega), k1 _ (by omega), ← hW1, heap_push]
     · show (W4.alloc _).heap[_]? = _
       rw [heap_push_lt (by rw [hW4s]; omega), hW4k _ (by omega), ← hW3, heap_push_lt (by rw [s2]; omega), ← hW2, ← s1, heap_push]
     · show (W4.alloc _).heap[_]? = _
       rw [heap_push_lt (by rw [hW4s]; omega), hb2']
       rfl
     · show (W4.alloc _).heap[_]? = _
       rw [← hW4s, heap_push]
       rfl
     · show W4.os = _
       rw [hA.os, ← hW3, ← hW2, ← hW1]; rfl
     · show W4.tape = _
       rw [hA.tape, ← hW3, ← hW2, ← hW1]; rfl
     · show W4.output = _
       rw [hA.output, ← hW3, ← hW2, ← hW1]; rfl
    exact h _ hst
  have := start W.drawn
  exact this
end Go.Proofs.Ytjcpjijihajopaa
namespace Go.Proofs.Ytjcpjijihajopaa
open Go.RowKit Go.Mt Go.Conc Go.Tt Go.Conc.Lib Go.ConcR.Gen
set_option linter.unusedVariables false
noncomputable def mainCx (Wg c n : Nat) (val : Nat → Value) (Fin : Goroutine → World → Prop) (K : Pr) (St : Nat → Prop) (I : Pr → Terr → World → Prop) (base : List Frame) : Cx PpL :=
  { p := Try.prog, gs := gsF, fs := fsF, ty := wgl.tWg, Wg := Wg, A := pipe c n val, Fin := Fin, main := true, base := base, ds := .nil, K := K, St := St, I := I, pin := [(5, .pointer (some ⟨Wg, 0, none⟩))] }
abbrev shunG (Shun : Loc → Prop) (Wg : Nat) : Loc → Prop := fun l => Shun l ∨ onB l Wg
/-- Goroutine 0's judgement, as the phase leaves it. -/
abbrev finJ (Post : Value → World → Prop) (Shun : Loc → Prop) (Wg : Nat) : Goroutine → World → Prop := fun g w' => J Try.prog Post (shunG Shun Wg) w'.heap.size g w'
noncomputable def ops9 : Array Oper := match rEM9 with | .region _ ops _ => ops | _ => #[]
theorem rEM9_eq : rEM9 = .region 9 ops9 false := rfl
abbrev oper9 : Oper := ⟨some 17, .call ⟨.value (.func 57), #[.tmp 5], #[86]⟩, 0, "l8_bills.go:77", #[], none⟩
theorem ops9_at : ops9[0]? = some oper9 := rfl
theorem ops9_range : List.range ops9.size = [0] := rfl
set_option maxRecDepth 100000 in
theorem wait_ent (Wg : Nat) : Frame.enter Try.prog 57 #[.pointer (some ⟨Wg, 0, none⟩)] .normal = (Conc.base wgl.wait).at ⟨#[.pointer (some ⟨Wg, 0, none⟩), undef, undef, undef, undef, undef, undef, undef, undef, undef, undef, undef, undef, undef, undef, undef, undef, undef, undef, undef, undef, undef, undef, undef, undef, undef, undef, undef, undef, undef, undef, undef, undef, undef, undef, undef, undef, undef, undef, undef, undef, undef, undef, undef, undef, undef, undef, undef, undef, undef, undef, undef, undef, undef, undef, undef, undef, undef, undef, undef, undef, undef, undef, undef, undef, undef, undef, undef, undef, undef, undef, undef, undef, undef, undef, undef, undef, undef, undef, undef, undef, undef, undef, undef], []⟩ [.code (body_wait wgl)] := by
  have h := Conc.enter_at (P := Try.prog) (f := wgl.wait) (fn := waitFn wgl) (c := body_wait wgl) #[.pointer (some ⟨Wg, 0, none⟩)] wgLib.f_wait rfl
  rw [h]
  have e : (waitFn wgl).ntmps = 84 := rfl
  rw [e]
  walk_nrm
set_option maxRecDepth 100000 in
theorem add_ent (Wg : Nat) : Frame.enter Try.prog 54 #[.pointer (some ⟨Wg, 0, none⟩), .int .i64 1] .normal = (Conc.base wgl.add).at ⟨#[.pointer (some ⟨Wg, 0, none⟩), .int .i64 1, undef, undef, undef, undef, undef, undef, undef, undef, undef, undef, undef, undef, undef, undef, undef, undef, undef, undef, undef, undef, undef, undef, undef, undef, undef, undef, undef, undef, undef, undef, undef, undef, undef, undef, undef, undef, undef, undef, undef, undef, undef, undef, undef, undef, undef, undef, undef, undef, undef, undef, undef, undef, undef, undef, undef, undef, undef, undef, undef, undef, undef, undef, undef, undef, undef, undef, undef, undef, undef, undef, undef, undef, undef, undef, undef, undef, undef, undef, undef, undef, undef, undef, undef, undef, undef, undef, undef, undef, undef, undef, undef, undef, undef, undef, undef, undef, undef, undef, undef, undef, undef, undef, undef, undef, undef, undef, undef, undef, undef, undef, undef, undef, undef, undef, undef], []⟩ [.code (body_add wgl)] := by
  have h := Conc.enter_at (P := Try.prog) (f := wgl.add) (fn := addFn wgl) (c := body_add wgl) #[.pointer (some ⟨Wg, 0, none⟩), .int .i64 1] wgLib.f_add rfl
  rw [h]
  have e : (addFn wgl).ntmps = 117 := rfl
  rw [e]
  walk_nrm
section
variable {Post : Value → World → Prop} {Shun : Loc → Prop} {W0 : World} {St : Nat → Prop} {Wg c n : Nat} {rs : List RecD} {K : Pr} {StM : Nat → Prop} {IXX : Pr → Terr → World → Prop} {I : Nat → World → Prop} {cf : Frame} {cs : List Frame}
set_option maxHeartbeats 4000000 in
set_option maxRecDepth 100000 in
/-- THE WAIT. -/
theorem each_wait (hC : IOk (mainCx Wg c n (recVal rs) (finJ Post Shun Wg) K StM (withLive wgl.tWg Wg IXX) (cf :: cs))) (hX : IX wgl.tWg Wg IXX)
    (hcont : ∀ (R : Pr) (τ : Terr) (wn Wn : World), WRel (SF fsF) K R Try.prog.globals.size StM wn Wn → Terra τ R StM → IXX R τ Wn → I n wn → J Try.prog Post (shunG Shun Wg) Wn.heap.size (G (cf.finish (.tuple #[])) cs) Wn)
    (tmps : Array Value) (w : World) (hw : I n w) : BO (mainCx Wg c n (recVal rs) (finJ Post Shun Wg) K StM (withLive wgl.tWg Wg IXX) (cf :: cs)) .wt ⟨35, tmps, [.code rEM9], false⟩ w := by
  intro R W m' τ hr hm ht hi
  obtain ⟨fn', tmps', todo', ret'⟩ := m'
  obtain rfl := hm.fn
  obtain rfl := hm.todo
  obtain rfl := hm.ret
  have h5 : tmps'.getD 5 undef = .pointer (some ⟨Wg, 0, none⟩) := hm.pins (5, .pointer (some ⟨Wg, 0, none⟩)) (List.mem_singleton.2 rfl)
  rw [fx_at]
  rw [rEM9_eq]
  refine beh_silent rfl rfl (fun W₁ s => stepG_region) fun W₁ s => ?_
  rw [ops9_range]
  have hr1 : WRel (SF fsF) K R Try.prog.globals.size StM w W₁ := Cx.Rel.suf (C := mainCx Wg c n (recVal rs) (finJ Post Shun Wg) K StM (withLive wgl.tWg Wg IXX) (cf :: cs)) hr ht s
  have hi1 : withLive wgl.tWg Wg IXX R τ W₁ := hC.suf _ _ _ _ hi s
  let F : World → Prop := fun W' => WRel (SF fsF) K R Try.prog.globals.size StM w W' ∧ IXX R τ W'
  have kf : KeepF wgl.tWg Wg τ F := by
    refine ⟨fun W' W'' s hF => ⟨wrel_suf hF.1 ht (fun a b x => (hF.1.lt a b (.inr x)).2) s, hX.suf _ _ _ _ hF.2 s⟩, fun W' a v ha hF => ⟨?_, hX.cell _ _ _ _ _ hF.2 ha⟩⟩
    exact WRel.real hF.1 (fun x b hx => setCell_ne W' a v (by rw [ha]; exact hX.rel _ _ _ hF.2 x b hx)) (by rw [setCell_size]; exact Nat.le_refl _)
  show BehE Try.prog wgl.tWg Wg (pipe c n (recVal rs)) (finJ Post Shun Wg) true (.usr .wt) 0 τ (G ((Conc.base 35).at ⟨tmps', []⟩ [.inRegion ops9 [0]]) (cf :: cs)) W₁
  refine beh_silent rfl rfl (g' := G ((Conc.base wgl.wait).at ⟨#[.pointer (some ⟨Wg, 0, none⟩), undef, undef, undef, undef, undef, undef, undef, undef, undef, undef, undef, undef, undef, undef, undef, undef, undef, undef, undef, undef, undef, undef, undef, undef, undef, undef, undef, undef, undef, undef, undef, undef, undef, undef, undef, undef, undef, undef, undef, undef, undef, undef, undef, undef, undef, undef, undef, undef, undef, undef, undef, undef, undef, undef, undef, undef, undef, undef, undef, undef, undef, undef, undef, undef, undef, undef, undef, undef, undef, undef, undef, undef, undef, undef, undef, undef, undef, undef, undef, undef, undef, undef, undef], []⟩ [.code (body_wait wgl)]) ((Conc.base 35).at ⟨tmps', []⟩ [.inRegion ops9 [0]] :: cf :: cs)) (fun W₂ s2 => ?_) fun W₂ s2 => ?_
  · obtain ⟨x1, x2⟩ := exec_call (p := Try.prog) (o := oper9) rfl (ρ := (Go.Act.mk tmps' []).eval) (fun g => rfl) wgLib.f_wait rfl rfl W₂
    have hst := stepG_enter (main := true) (b := Conc.base 35) (a := ⟨tmps', []⟩) (rest := []) (cs := cf :: cs) (k := []) ops9_at rfl (by decide) x1
    rw [hst]
    unfold listed
    rw [x2, Conc.seen_none]
    simp only [List.map_toArray, List.map_cons, List.map_nil, Go.Act.eval]
    rw [h5, wait_ent]
  · have hF2 : F W₂ := kf.suf _ _ s2 ⟨hr1, hi1.1⟩
    have hJ : ∀ Wn, F Wn → ∀ d, finJ Post Shun Wg (G ((Conc.base 35).at (Go.Act.put ⟨tmps', []⟩ ((ops9[0]?).bind (·.dst)) (.tuple #[])) [.inRegion ops9 []]) (cf :: cs)) (Wn.at d) := fun Wn hFn => by
      show ∀ d, J Try.prog Post (shunG Shun Wg) Wn.heap.size (G ((Conc.base 35).at (Go.Act.put ⟨tmps', []⟩ ((ops9[0]?).bind (·.dst)) (.tuple #[])) [.inRegion ops9 []]) (cf :: cs)) (Wn.at d)
      refine J.sil rfl (fun w => stepG_region_end) ?_
      refine J.sil rfl (fun w => stepG_end) ?_
      refine J.sil rfl (g' := G (cf.finish (.tuple #[])) cs) (fun w => stepG_leave (fn := Try.f35) (v := .tuple #[]) rfl rfl Try.func35 (results_none rfl _ _ _) (Conc.events_results_none rfl _ _)) ?_
      intro d
      exact hcont R τ w (Wn.at d) (WRel.at hFn.1 d) ht (hX.at_ _ _ _ d hFn.2) hw
    exact waitW (A := pipe c n (recVal rs)) (b₀ := Conc.base 35) (a₀ := ⟨tmps', []⟩) (ops₀ := ops9) (i₀ := 0) (rest₀ := []) (k₀ := []) (cs := cf :: cs) (Fin := finJ Post Shun Wg) (l := PpL.wt) (τ := τ) (Wg := Wg) wgLib rfl kf (fun n g w h => fin_goes n g w h) (fun Wn hFn _ _ => hJ Wn hFn) W₂ ⟨hF2, s2.live hi1.2⟩
set_option maxHeartbeats 4000000 in
set_option maxRecDepth 100000 in
/-- Behind the go statement. -/
theorem each_main {Fin : Goroutine → World → Prop} {IC : Pr → Terr → World → Prop} {f : FuncId} {capt : Array Value} {gc gv : Nat} (hC : IOk (mainCx Wg c n (recVal rs) Fin K StM IC (cf :: cs))) (hK : K gc c) (hrs : rs.length = n) (E : EachI f capt rs I) (hf : gsF f = true)
    (hwait : ∀ tmps w, I n w → BO (mainCx Wg c n (recVal rs) Fin K StM IC (cf :: cs)) .wt ⟨35, tmps, [.code rEM9], false⟩ w) {ops4 : Array Oper} {u0 u2 u3 u6 u7 u8 u9 u10 u11 u12 u13 u14 u15 u16 u17 : Value} {w : World} (hw : I 0 w) (hv : w.heap[gv]? = some (.cells #[.chan (some gc)] 76 (0, 1))) :
    BO (mainCx Wg c n (recVal rs) Fin K StM IC (cf :: cs)) (.rv 0) ⟨35, #[u0, .func (.func f) #[] capt, u2, u3, .pointer (some ⟨gv, 0, none⟩), .nilFunc, u6, u7, u8, u9, u10, u11, u12, u13, u14, u15, u16, u17], [.inRegion ops4 [], .code (.seq (.seq rEM5 (.block 0 (.loop loopEM))) rEM9)], false⟩ w := by
  let C := mainCx Wg c n (recVal rs) Fin K StM IC (cf :: cs)
  have F : Fit3 C.P C.fs := fitF
  refine BO.regEnd hC ?_
  refine BO.seq hC ?_
  refine BO.seq hC ?_
  generalize hk0 : (Item.code (.block 0 (.loop loopEM)) :: [Item.code rEM9]) = K0
  simp only [rEM5, bodyEM, Try.f35, Option.getD_some]
  refine BO.regs hC [0] rfl ?_
  refine BO.op (C := C) F hC (o := _) rfl rfl (by kernel_rfl) (by intro s hs; cases hs; show (10 : Nat) ∉ ([5] : List Nat); decide) (fun T => ⟨.chan (some gc), Tt.tp w T 0, .inl ?_, ?_⟩)
  · exact exec_load1 (a := ⟨gv, 0, none⟩) rfl rfl (Try.isAgg76 _) (blk_cell (w := Tt.tp w T 0) hv 0)
  refine BO.regEnd hC ?_
  subst hk0
  refine BO.block hC ?_
  refine BO.loop hC ?_
  exact each_main_loop C rfl rfl rfl rfl rfl hC hK hrs E hf hwait n 0 (by omega) _ _ _ _ _ _ _ _ _ _ _ _ _ _ _ (E.tape _ _ _ _ hw)
end
end Go.Proofs.Ytjcpjijihajopaa
namespace Go.Proofs.Ytjcpjijihajopaa
open Go.RowKit Go.Mt Go.Conc Go.Tt Go.Conc.Lib Go.ConcR.Gen
set_option linter.unusedVariables false
noncomputable def ops3 : Array Oper := match rEM3 with | .region _ ops _ => ops | _ => #[]
noncomputable def ops4 : Array Oper := match rEM4 with | .region _ ops _ => ops | _ => #[]
theorem rEM3_eq : rEM3 = .region 3 ops3 false := rfl
theorem rEM4_eq : rEM4 = .region 4 ops4 false := rfl
abbrev oper3 : Oper := ⟨some 8, .call ⟨.value (.func 54), #[.tmp 5, .const (.int .i64 1)], #[86, 3]⟩, 0, "l8_bills.go:66", #[], none⟩
abbrev oper40 : Oper := ⟨some 9, .makeFunc (.func 55) #[] #[.tmp 5, .tmp 4, .tmp 2], 1, "l8_bills.go:67", #[], none⟩
abbrev oper41 : Oper := ⟨none, .go ⟨.value (.tmp 9), #[], #[]⟩, 0, "l8_bills.go:67", #[{ on := 0, ground := Ground.data }], none⟩
theorem ops3_at : ops3[0]? = some oper3 := rfl
theorem ops4_0 : ops4[0]? = some oper40 := rfl
theorem ops4_1 : ops4[1]? = some oper41 := rfl
theorem ops3_range : List.range ops3.size = [0] := rfl
theorem ops4_range : List.range ops4.size = [0, 1] := rfl
/-- What stands while goroutine 0 calls Add. -/
structure F4 (R : Pr) (W0 W : World) (v : Value) (W' : World) : Prop where
  rel : ∀ a b, R a b → W'.heap[b]? = W.heap[b]?
  b0 : W'.heap[W.heap.size]? = some (.cells #[v] 25)
  b1 : W'.heap[W.heap.size + 1]? = some (.chan 0 #[] false 0 0 false)
  b2 : W'.heap[W.heap.size + 2]? = some (.cells #[.chan (some (W.heap.size + 1))] 76)
  os : W'.os = W.os
  tape : W'.tape = W.tape
  output : W'.output = W.output
  old : ∀ b, b < W0.heap.size → W'.heap[b]? = W0.heap[b]?
  size : W.heap.size + 4 ≤ W'.heap.size
/-- The sender's ghost. -/
theorem chw_ghost {w : World} {A : Option Addr} {src : Option Blk} {n cap : Nat} {rs : List RecD} (hs : srcOk w A src) (h : Slc w 0 w.heap.size 7 A n cap (recs rs)) :
    ChW w.heap.size (w.heap.size + 1) (numC w src) (sliceC w src) n cap rs (ghostC w src 76 25 n cap) := by
  have e1 : (w.alloc waste).heap.size = w.heap.size + 1 := size_push _ _
  have e2 : ((w.alloc waste).alloc (.cells #[.chan (some w.heap.size)] 76 (0, 1))).heap.size = w.heap.size + 2 := by rw [size_push, e1]
  cases src with
  | none =>
    obtain rfl : A = none := hs
    have hn : n = 0 := by
      rcases Nat.eq_zero_or_pos n with h0 | h0
      · exact h0
      · obtain ⟨_, _, e, _⟩ := h.at_ h0; cases e
    refine ⟨?_, ?_, h.len, h.le, h.cap, fun h0 => by omega⟩
    · show (World.alloc _ _).heap[_]? = _
      rw [heap_push_lt (by rw [e2]; omega), ← e1, heap_push]
    · show (World.alloc _ _).heap[_]? = _
      show _[w.heap.size + 2]? = _
      rw [← e2, heap_push]; rfl
  | some b =>
    obtain ⟨rfl, hb, _⟩ := hs
    have e3 : (((w.alloc waste).alloc (.cells #[.chan (some w.heap.size)] 76 (0, 1))).alloc (.cells b.cs b.T (0, max b.cs.size b.fz.2))).heap.size = w.heap.size + 3 := by rw [size_push, e2]
    have hb2 : (ghostC w (some b) 76 25 n cap).heap[w.heap.size + 2]? = some (.cells b.cs b.T (0, max b.cs.size b.fz.2)) := by
      show (World.alloc _ _).heap[_]? = _
      rw [heap_push_lt (by rw [e3]; omega), ← e2, heap_push]
    refine ⟨?_, ?_, h.len, h.le, h.cap, fun h0 => ⟨_, _, rfl, Nat.zero_le _, ?_, ?_, fun j v hv => ?_⟩⟩
    · show (World.alloc _ _).heap[_]? = _
      rw [heap_push_lt (by rw [e3]; omega), heap_push_lt (by rw [e2]; omega), ← e1, heap_push]
    · show (World.alloc _ _).heap[w.heap.size + 3]? = _
      rw [← e3, heap_push]; rfl
    · show w.heap.size + 2 < (World.alloc _ _).heap.size
      rw [size_push, e3]; omega
    · show w.heap.size + 2 < (World.alloc _ _).heap.size
      rw [size_push, e3]; omega
    · obtain ⟨b1, off, e, _, _, _, h4⟩ := h.at_ h0
      simp only [Option.some.injEq, Addr.mk.injEq] at e
      obtain ⟨rfl, rfl, _⟩ := e
      have := h4 j v hv
      rw [blk_cell hb] at this
      rw [blk_cell hb2]
      exact this
section
variable {Post : Value → World → Prop} {Shun : Loc → Prop} {W0 : World} {St : Nat → Prop} {n cap : Nat} {rs : List RecD} {K R : Pr} {I : Nat → World → Prop} {cf : Frame} {cs : List Frame} {f : FuncId} {capt : Array Value} {A A' : Option Addr} {vf' : Value} {w W W4 : World} {src : Option Blk}
/-- The places of the phase. -/
def tau0 (R : Pr) (St : Nat → Prop) (src : Option Blk) (W0 W : World) : Terr := ⟨fun b => (∃ a, R a b ∧ ¬ StF St src a) ∨ b = W.heap.size ∨ b = W.heap.size + 1 ∨ b = W.heap.size + 2, fun b => b < W0.heap.size ∨ ∃ a, R a b ∧ StF St src a, fun _ => False⟩
def tauM (R : Pr) (St : Nat → Prop) (src : Option Blk) (W0 W : World) : Terr := ⟨fun b => ∃ a, R a b ∧ ¬ StF St src a, fun b => b < W0.heap.size ∨ (∃ a, R a b ∧ StF St src a) ∨ b = W.heap.size + 2, fun _ => False⟩
def tauC (R : Pr) (St : Nat → Prop) (src : Option Blk) (W0 W : World) : Terr := ⟨fun _ => False, fun b => b < W0.heap.size ∨ (∃ a, R a b ∧ StF St src a) ∨ b = W.heap.size ∨ b = W.heap.size + 2, fun b => b = W.heap.size + 1⟩
theorem f4_keep {v : Value} (hlt : ∀ a b, R a b → b < W.heap.size) (hW0 : W0.heap.size ≤ W.heap.size) : KeepF wgl.tWg (W.heap.size + 3) (tau0 R St src W0 W) (F4 R W0 W v) := by
  refine ⟨fun W' W'' s h => ?_, fun W' a v ha h => ?_⟩
  · refine ⟨fun a b x => (s.keep b ?_).trans (h.rel a b x), (s.keep _ (.inl (.inr (.inl rfl)))).trans h.b0, (s.keep _ (.inl (.inr (.inr (.inl rfl))))).trans h.b1, (s.keep _ (.inl (.inr (.inr (.inr rfl))))).trans h.b2, s.os.trans h.os, s.tape.trans h.tape, s.output.trans h.output, fun b hb => (s.keep b (.inr (.inl hb))).trans (h.old b hb), Nat.le_trans h.size s.size⟩
    by_cases e : StF St src a
    · exact .inr (.inr ⟨a, x, e⟩)
    · exact .inl (.inl ⟨a, x, e⟩)
  · have hA1 := aside_setCell W' a v
    refine ⟨fun x b hx => (setCell_ne W' a v (by have := hlt x b hx; omega)).trans (h.rel x b hx), (setCell_ne W' a v (by omega)).trans h.b0, (setCell_ne W' a v (by omega)).trans h.b1, (setCell_ne W' a v (by omega)).trans h.b2, hA1.os.trans h.os, hA1.tape.trans h.tape, hA1.output.trans h.output, fun b hb => (setCell_ne W' a v (by omega)).trans (h.old b hb), by rw [setCell_size]; exact h.size⟩
/-- What is frozen while the sender reads. -/
abbrev fzB (R : Pr) (St : Nat → Prop) (src : Option Blk) (b : Nat) : Prop := ∃ a, R a b ∧ StF St src a
set_option maxHeartbeats 4000000 in
set_option maxRecDepth 100000 in
theorem go_main (hw : WRel (SF fsF) K R Try.prog.globals.size St w W) (hsh : Sh W0.heap.size Shun R W) (hk : Kp W0 R St W) (hs : srcOk w A src) (hslc : Slc w 0 w.heap.size 7 A n cap (recs rs)) 
    (hA : OaR R A A') (hvf : VR (SF fsF) K R (.func (.func f) #[] capt) vf') (E : EachI f capt rs I) (hf : gsF f = true) (hI0 : I 0 (ghostM w src 76))
    (hcont : ∀ (K' R' : Pr) (wn Wn : World), K.le K' → R.le R' → WRel (SF fsF) K' R' Try.prog.globals.size St (thaw wn src) Wn → I n wn → Sh W0.heap.size (shunG Shun (W.heap.size + 3)) R' Wn → Kp W0 R' St Wn → J Try.prog Post (shunG Shun (W.heap.size + 3)) Wn.heap.size (G (cf.finish (.tuple #[])) cs) Wn)
    {W7 : World} (h7 : F4 R W0 W (.slice A' n cap) W7) (hl7 : WgLive wgl.tWg (W.heap.size + 3) W7) :
    BehE Try.prog wgl.tWg (W.heap.size + 3) (pipe (W.heap.size + 1) n (recVal rs)) (finJ Post Shun (W.heap.size + 3)) true (.usr (.rv 0)) 0 (tauM R St src W0 W) (G ((Conc.base 35).at ⟨#[.slice A' n cap, vf', .pointer (some ⟨W.heap.size, 0, none⟩), undef, .pointer (some ⟨W.heap.size + 2, 0, none⟩), .pointer (some ⟨W.heap.size + 3, 0, none⟩), undef, .chan (some (W.heap.size + 1)), .tuple #[], .func (.func 55) #[] #[.pointer (some ⟨W.heap.size + 3, 0, none⟩), .pointer (some ⟨W.heap.size + 2, 0, none⟩), .pointer (some ⟨W.heap.size, 0, none⟩)], undef, undef, undef, undef, undef, undef, undef, undef], []⟩ [.inRegion ops4 [], .code (.seq (.seq rEM5 (.block 0 (.loop loopEM))) rEM9)]) (cf :: cs)) W7 := by
  have hrs : rs.length = n := hslc.recLen
  have hlt : ∀ a b, R a b → b < W.heap.size := fun a b x => (hw.lt a b (.inl x)).2
  have hsR : ∀ b, src = some b → ∃ b', R b.rb b' := fun b e => by
    subst e
    obtain ⟨rfl, _, _⟩ := hs
    cases hA with
    | some x => cases x with | mk x => exact ⟨_, x⟩
  have hW0 : W0.heap.size ≤ W.heap.size := hk.size
  let Fz : Nat → Prop := fzB R St src
  let SS : Nat → Prop := (tauM R St src W0 W).still
  have hSS : ∀ b, b < W0.heap.size → SS b := fun b hb => .inl hb
  have hF : ∀ b, Fz b → SS b := fun b hb => .inr (.inl hb)
  have hlow : W0.heap.size ≤ W.heap.size + 3 := by omega
  have hrel := main_rel hw hs hsR (N1 := W.heap.size + 1) (N2 := W.heap.size + 2) (Tc := 76) (W4 := W7) (by omega) (by omega) (by omega) h7.rel (by have := h7.size; omega) h7.b2
  let C : Cx PpL := mainCx (W.heap.size + 3) (W.heap.size + 1) n (recVal rs) (finJ Post Shun (W.heap.size + 3)) (K.add w.heap.size (W.heap.size + 1)) (stM St src w) (withLive wgl.tWg (W.heap.size + 3) (IMX W0 St (shunG Shun (W.heap.size + 3)) (W.heap.size + 3) SS R Fz W)) (cf :: cs)
  have hC : IOk C := imx_ok (C := C) rfl (fun a x => .inl (.inl x)) hSS hF hlow
  have hX : IX wgl.tWg (W.heap.size + 3) (IMX W0 St (shunG Shun (W.heap.size + 3)) (W.heap.size + 3) SS R Fz W) := imx_ix hSS hF hlow
  have hwait : ∀ tmps w', I n w' → BO C .wt ⟨35, tmps, [.code rEM9], false⟩ w' := fun tmps w' hw' => by
    refine each_wait (K := K.add w.heap.size (W.heap.size + 1)) (StM := stM St src w) hC hX (fun R' τ wn Wn hr ht hi hin => ?_) tmps w' hw'
    refine hcont (K.add w.heap.size (W.heap.size + 1)) R' wn Wn (Pr.le_add _ _ _) hi.le ?_ hin hi.im.sh hi.im.kp
    refine thaw_rel hw hs hi.le (WRel.subSt hr fun a x => .inl x) (fun b b' e hb => ?_) hsR
    exact (hi.fz b' ⟨b.rb, hb, .inr ⟨b, e, rfl⟩⟩).2.1
  have hv : (ghostM w src 76).heap[w.heap.size + 1]? = some (.cells #[.chan (some w.heap.size)] 76 (0, 1)) := by
    have e1 : ((frz w src).alloc waste).heap.size = w.heap.size + 1 := by rw [size_push, frz_size]
    unfold ghostM
    rw [← e1, heap_push]
  have hB := each_main (ops4 := ops4) (u0 := .slice A n cap) (u2 := .nilFunc) (u3 := undef) (u6 := undef) (u7 := .chan (some w.heap.size)) (u8 := .tuple #[]) (u9 := .nilFunc) (u10 := undef) (u11 := undef) (u12 := undef) (u13 := undef) (u14 := undef) (u15 := undef) (u16 := undef) (u17 := undef) hC (.inr ⟨rfl, rfl⟩) hrs E hf hwait hI0 hv
  have hRle : R.le (R.add (w.heap.size + 1) (W.heap.size + 2)) := Pr.le_add _ _ _
  have hKle : K.le (K.add w.heap.size (W.heap.size + 1)) := Pr.le_add _ _ _
  refine hB (R.add (w.heap.size + 1) (W.heap.size + 2)) W7 ⟨35, #[.slice A' n cap, vf', .pointer (some ⟨W.heap.size, 0, none⟩), undef, .pointer (some ⟨W.heap.size + 2, 0, none⟩), .pointer (some ⟨W.heap.size + 3, 0, none⟩), undef, .chan (some (W.heap.size + 1)), .tuple #[], .func (.func 55) #[] #[.pointer (some ⟨W.heap.size + 3, 0, none⟩), .pointer (some ⟨W.heap.size + 2, 0, none⟩), .pointer (some ⟨W.heap.size, 0, none⟩)], undef, undef, undef, undef, undef, undef, undef, undef], [.inRegion ops4 [], .code (.seq (.seq rEM5 (.block 0 (.loop loopEM))) rEM9)], false⟩ (tauM R St src W0 W) hrel ⟨rfl, rfl, rfl, ?_, fun x hx => ?_⟩ ?_ ⟨⟨⟨⟨h7.os.trans hk.os, h7.tape.trans hk.tape, h7.output.trans hk.output, by have := h7.size; omega, h7.old, ?_⟩, ⟨?_, ?_, ?_⟩, rfl, by have := h7.size; omega, ?_, ?_⟩, hRle, ?_⟩, hl7⟩
  · have v0 : VR (SF fsF) (K.add w.heap.size (W.heap.size + 1)) (R.add (w.heap.size + 1) (W.heap.size + 2)) (.slice A n cap) (.slice A' n cap) := .slice (hA.mono hRle)
    have v1 := vr_monoK hKle (hvf.mono hRle)
    have hj : ∀ x, Tt.Hid x → VR (SF fsF) (K.add w.heap.size (W.heap.size + 1)) (R.add (w.heap.size + 1) (W.heap.size + 2)) .nilFunc x := fun x h => .junk h
    have vu := vr_undef (S := SF fsF) (K := K.add w.heap.size (W.heap.size + 1)) (R := R.add (w.heap.size + 1) (W.heap.size + 2))
    exact (((((((((((((((((ArR.empty.push v0).push v1).push (hj _ (by exact True.intro))).push vu).push (.pointer (.some (.mk (.inr ⟨rfl, rfl⟩))))).push (hj _ (by exact True.intro))).push vu).push (.chan (.some (.inr (.inr ⟨rfl, rfl⟩))))).push (.tuple rfl fun i v v' h => by simp at h)).push (hj _ (by exact True.intro))).push vu).push vu).push vu).push vu).push vu).push vu).push vu).push vu
  · obtain rfl := List.mem_singleton.1 hx
    rfl
  · rintro a b (x | ⟨rfl, rfl⟩)
    · refine ⟨fun z => ?_, fun z => ⟨a, x, fun y => z (.inl y)⟩⟩
      rcases z with z | z
      · exact .inr (.inl ⟨a, x, z⟩)
      · have := (hw.lt a b (.inl x)).1; omega
    · exact ⟨fun _ => .inr (.inr rfl), fun z => absurd (.inr rfl) z⟩
  · rintro a b (x | ⟨rfl, rfl⟩) hb
    · exact hk.old a b x hb
    · omega
  · rintro l b hl hb (hx | hx)
    · exact hsh.old l b hl hb hx
    · have := onB_inj hl hx; omega
  · rintro a b (x | ⟨rfl, rfl⟩) l hl (hx | hx)
    · exact hsh.rel a b x l hl hx
    · have := onB_inj hl hx; have := hlt a b x; omega
    · exact hsh.new l _ hl (by omega) hx
    · have := onB_inj hl hx; omega
  · rintro l b hl hb (hx | hx)
    · exact hsh.new l b hl (by have := h7.size; omega) hx
    · have := onB_inj hl hx; have := h7.size; omega
  · rintro b ⟨a, x, _⟩
    have := hlt a b x; omega
  · rintro a b (x | ⟨rfl, rfl⟩)
    · have := hlt a b x; omega
    · omega
  · rintro b ⟨a, x, y⟩
    have := hlt a b x
    refine ⟨by have := h7.size; omega, h7.rel a b x, ?_, by omega⟩
    rintro ⟨a', x', y'⟩
    obtain rfl := hw.inj' a a' b (.inl x) (.inl x')
    exact y' y
set_option maxHeartbeats 4000000 in
set_option maxRecDepth 100000 in
theorem go_child {Fin : Goroutine → World → Prop} (hw : WRel (SF fsF) K R Try.prog.globals.size St w W) (hW0 : W0.heap.size ≤ W.heap.size) (hs : srcOk w A src) (hlo : ∀ b, src = some b → Try.prog.globals.size ≤ b.rb) (hslc : Slc w 0 w.heap.size 7 A n cap (recs rs)) (hn : n ≤ 1048576)
    (hA : OaR R A A') {W7 : World} (h7 : F4 R W0 W (.slice A' n cap) W7) (hl7 : WgLive wgl.tWg (W.heap.size + 3) W7) :
    BehE Try.prog wgl.tWg (W.heap.size + 3) (pipe (W.heap.size + 1) n (recVal rs)) Fin false (.usr (.sd 0)) 0 (tauC R St src W0 W) (born Try.prog { target := .fn (.func 55) #[.pointer (some ⟨W.heap.size + 3, 0, none⟩), .pointer (some ⟨W.heap.size + 2, 0, none⟩), .pointer (some ⟨W.heap.size, 0, none⟩)], args := #[] }) W7 := by
  have hrs : rs.length = n := hslc.recLen
  have hlt : ∀ a b, R a b → b < W.heap.size := fun a b x => (hw.lt a b (.inl x)).2
  obtain ⟨b', hR⟩ : ∃ b', ∀ b, src = some b → R b.rb b' := by
    cases src with
    | none => exact ⟨0, fun b e => by cases e⟩
    | some b =>
      obtain ⟨rfl, _, _⟩ := hs
      cases hA with
      | some x => cases x with | mk x => exact ⟨_, fun b e => by cases e; exact x⟩
  have hntm : (Try.f55).ntmps = 15 := rfl
  refine beh_silent rfl rfl (fun W₁ s => born_stepG (c := bodyEC) Try.func55 (by decide) rfl W₁) fun W₁ s => ?_
  obtain ⟨St', hrel, hst⟩ := child_rel (W4 := W7) (n := n) (cap := cap) (Tc := 76) (Ts := 25) hw hs hR hlo hA rfl rfl rfl h7.rel (by have := h7.size; omega) h7.b2 h7.b0
  have ht : Terra (tauC R St src W0 W) (relC w src b' W.heap.size (W.heap.size + 2)) St' := fun a b x => by
    refine ⟨fun _ => ?_, fun z => absurd (hst a b x) z⟩
    cases src with
    | none =>
      rcases x with (x | ⟨_, rfl⟩) | ⟨_, rfl⟩
      · exact x.elim
      · exact .inr (.inr (.inr rfl))
      · exact .inr (.inr (.inl rfl))
    | some b0 =>
      rcases x with ((x | ⟨_, rfl⟩) | ⟨_, rfl⟩) | ⟨_, rfl⟩
      · exact x.elim
      · exact .inr (.inr (.inr rfl))
      · exact .inr (.inl ⟨b0.rb, hR b0 rfl, .inr ⟨b0, rfl, rfl⟩⟩)
      · exact .inr (.inr (.inl rfl))
  have hB := each_child (Wg := W.heap.size + 3) (c := W.heap.size + 1) (Fin := Fin) (K := P0.add w.heap.size (W.heap.size + 1)) (St := St') (.inr ⟨rfl, rfl⟩) hrs hn (chw_ghost hs hslc)
  have hrel1 := Cx.Rel.suf (C := childCx (W.heap.size + 3) (W.heap.size + 1) n (recVal rs) Fin (P0.add w.heap.size (W.heap.size + 1)) St') hrel ht s
  have hgv : VR (SF fsF) (P0.add w.heap.size (W.heap.size + 1)) (relC w src b' W.heap.size (W.heap.size + 2)) (.pointer (some ⟨w.heap.size + 1, 0, none⟩)) (.pointer (some ⟨W.heap.size + 2, 0, none⟩)) := by
    refine .pointer (.some (.mk ?_))
    cases src with
    | none => exact .inl (.inr ⟨rfl, rfl⟩)
    | some b => exact .inl (.inl (.inr ⟨rfl, rfl⟩))
  have hgr : VR (SF fsF) (P0.add w.heap.size (W.heap.size + 1)) (relC w src b' W.heap.size (W.heap.size + 2)) (.pointer (some ⟨numC w src, 0, none⟩)) (.pointer (some ⟨W.heap.size, 0, none⟩)) := by
    refine .pointer (.some (.mk ?_))
    cases src with
    | none => exact .inr ⟨rfl, rfl⟩
    | some b => exact .inr ⟨rfl, rfl⟩
  have hj : ∀ x, Tt.Hid x → VR (SF fsF) (P0.add w.heap.size (W.heap.size + 1)) (relC w src b' W.heap.size (W.heap.size + 2)) .nilFunc x := fun x h => .junk h
  have vu := vr_undef (S := SF fsF) (K := P0.add w.heap.size (W.heap.size + 1)) (R := relC w src b' W.heap.size (W.heap.size + 2))
  have hC15 : (#[] ++ #[.pointer (some ⟨W.heap.size + 3, 0, none⟩), .pointer (some ⟨W.heap.size + 2, 0, none⟩), .pointer (some ⟨W.heap.size, 0, none⟩)]) ++ Array.replicate ((Try.f55).ntmps - (#[] ++ #[.pointer (some ⟨W.heap.size + 3, 0, none⟩), .pointer (some ⟨W.heap.size + 2, 0, none⟩), .pointer (some ⟨W.heap.size, 0, none⟩)] : Array Value).size) undef
      = (#[.pointer (some ⟨W.heap.size + 3, 0, none⟩), .pointer (some ⟨W.heap.size + 2, 0, none⟩), .pointer (some ⟨W.heap.size, 0, none⟩), undef, undef, undef, undef, undef, undef, undef, undef, undef, undef, undef, undef] : Array Value) := by rw [hntm]; rfl
  rw [hC15]
  have hlive1 := s.live hl7
  refine hB (relC w src b' W.heap.size (W.heap.size + 2)) W₁ ⟨55, #[.pointer (some ⟨W.heap.size + 3, 0, none⟩), .pointer (some ⟨W.heap.size + 2, 0, none⟩), .pointer (some ⟨W.heap.size, 0, none⟩), undef, undef, undef, undef, undef, undef, undef, undef, undef, undef, undef, undef], [.code bodyEC], false⟩ (tauC R St src W0 W) hrel1 ⟨rfl, rfl, rfl, ?_, fun x hx => ?_⟩ ht ⟨rfl, fun x => x.elim, by have := s.size; have := h7.size; omega, hlive1⟩
  · exact ((((((((((((((ArR.empty.push (hj _ (by exact True.intro))).push hgv).push hgr).push vu).push vu).push vu).push vu).push vu).push vu).push vu).push vu).push vu).push vu).push vu).push vu
  · obtain rfl := List.mem_singleton.1 hx
    rfl
end
end Go.Proofs.Ytjcpjijihajopaa
namespace Go.Proofs.Ytjcpjijihajopaa
open Go.RowKit Go.Mt Go.Conc Go.Tt Go.Conc.Lib Go.ConcR.Gen
set_option linter.unusedVariables false
section
variable {Post : Value → World → Prop} {Shun : Loc → Prop} {W0 : World} {St : Nat → Prop} {n cap : Nat} {rs : List RecD} {K R : Pr} {I : Nat → World → Prop} {cf : Frame} {cs : List Frame} {f : FuncId} {capt : Array Value} {A A' : Option Addr} {vf' : Value} {w W W4 : World} {src : Option Blk}
set_option maxHeartbeats 8000000 in
set_option maxRecDepth 100000 in
theorem each_phase (hw : WRel (SF fsF) K R Try.prog.globals.size St w W) (hsh : Sh W0.heap.size Shun R W) (hk : Kp W0 R St W) (hs : srcOk w A src) (hlo : ∀ b, src = some b → Try.prog.globals.size ≤ b.rb) (hslc : Slc w 0 w.heap.size 7 A n cap (recs rs)) (hn : n ≤ 1048576)
    (hA : OaR R A A') (hvf : VR (SF fsF) K R (.func (.func f) #[] capt) vf') (hst : St4 W W4 (.slice A' n cap)) (E : EachI f capt rs I) (hf : gsF f = true) (hI0 : I 0 (ghostM w src 76))
    (hcont : ∀ (K' R' : Pr) (wn Wn : World), K.le K' → R.le R' → WRel (SF fsF) K' R' Try.prog.globals.size St (thaw wn src) Wn → I n wn → Sh W0.heap.size (shunG Shun (W.heap.size + 3)) R' Wn → Kp W0 R' St Wn → J Try.prog Post (shunG Shun (W.heap.size + 3)) Wn.heap.size (G (cf.finish (.tuple #[])) cs) Wn) :
    J Try.prog Post Shun (W.heap.size + 3) (G ((Conc.base 35).at ⟨#[.slice A' n cap, vf', .pointer (some ⟨W.heap.size, 0, none⟩), undef, .pointer (some ⟨W.heap.size + 2, 0, none⟩), .pointer (some ⟨W.heap.size + 3, 0, none⟩), undef, .chan (some (W.heap.size + 1)), undef, undef, undef, undef, undef, undef, undef, undef, undef, undef], []⟩ [.code rEM3, .code (.seq rEM4 (.seq (.seq rEM5 (.block 0 (.loop loopEM))) rEM9))]) (cf :: cs)) W4 := by
  have hrs : rs.length = n := hslc.recLen
  have hlt : ∀ a b, R a b → b < W.heap.size := fun a b x => (hw.lt a b (.inl x)).2
  have hltK : ∀ a b, (R.or K) a b → b < W.heap.size := fun a b x => (hw.lt a b x).2
  have hsR : ∀ b, src = some b → ∃ b', R b.rb b' := fun b e => by
    subst e
    obtain ⟨rfl, _, _⟩ := hs
    cases hA with
    | some x => cases x with | mk x => exact ⟨_, x⟩
  have hW0 : W0.heap.size ≤ W.heap.size := hk.size
  have hstill : ∀ b, (∃ a, R a b ∧ ¬ StF St src a) → W0.heap.size ≤ b := fun b ⟨a, h1, h2⟩ => by
    rcases Nat.lt_or_ge b W0.heap.size with h | h
    · exact absurd (.inl (hk.old a b h1 h)) h2
    · exact h
  refine J.phase (pipe_ok (W.heap.size + 1) n (recVal rs)) (ty := wgl.tWg) (Wg := W.heap.size + 3) (l := .m0) (τ := tau0 R St src W0 W) ?hb hst.b3 ⟨Nat.le_refl _, by rw [hst.size]; omega⟩ ?bnd rfl (.a .m0 (.inl rfl) rfl fun i hi => by simp [hi])
  case bnd =>
    rintro b ((⟨a, h1, h2⟩ | rfl | rfl | rfl) | (h | ⟨a, h1, h2⟩) | h)
    · have := hlt a b h1
      exact ⟨by rw [hst.size]; omega, by omega, hsh.rel a b h1⟩
    · exact ⟨by rw [hst.size]; omega, by omega, fun l hl => hsh.new l _ hl (by omega)⟩
    · exact ⟨by rw [hst.size]; omega, by omega, fun l hl => hsh.new l _ hl (by omega)⟩
    · exact ⟨by rw [hst.size]; omega, by omega, fun l hl => hsh.new l _ hl (by omega)⟩
    · exact ⟨by rw [hst.size]; omega, by omega, fun l hl => hsh.old l b hl h⟩
    · have := hlt a b h1
      exact ⟨by rw [hst.size]; omega, by omega, hsh.rel a b h1⟩
    · exact h.elim
  case hb =>
    have hF0 : F4 R W0 W (.slice A' n cap) W4 := ⟨fun a b x => hst.keep b (hlt a b x), hst.b0, hst.b1, hst.b2, hst.os, hst.tape, hst.output, fun b hb => (hst.keep b (by omega)).trans (hk.block b hb), by rw [hst.size]; exact Nat.le_refl _⟩
    have kf := f4_keep (R := R) (St := St) (src := src) (v := .slice A' n cap) hlt hW0
    -- behind Add
    have hgo : ∀ W5, F4 R W0 W (.slice A' n cap) W5 → WgLive wgl.tWg (W.heap.size + 3) W5 → BehE Try.prog wgl.tWg (W.heap.size + 3) (pipe (W.heap.size + 1) n (recVal rs)) (finJ Post Shun (W.heap.size + 3)) true (.usr .m1) 0 (tau0 R St src W0 W) (G ((Conc.base 35).at ⟨#[.slice A' n cap, vf', .pointer (some ⟨W.heap.size, 0, none⟩), undef, .pointer (some ⟨W.heap.size + 2, 0, none⟩), .pointer (some ⟨W.heap.size + 3, 0, none⟩), undef, .chan (some (W.heap.size + 1)), .tuple #[], undef, undef, undef, undef, undef, undef, undef, undef, undef], []⟩ [.inRegion ops3 [], .code (.seq rEM4 (.seq (.seq rEM5 (.block 0 (.loop loopEM))) rEM9))]) (cf :: cs)) W5 := by
      intro W5 h5 hl5
      have kp := fun W' W'' (st : Suf wgl.tWg (W.heap.size + 3) (tau0 R St src W0 W) W' W'') (x : F4 R W0 W (.slice A' n cap) W' ∧ WgLive wgl.tWg (W.heap.size + 3) W') => (⟨kf.suf _ _ st x.1, st.live x.2⟩ : F4 R W0 W (.slice A' n cap) W'' ∧ WgLive wgl.tWg (W.heap.size + 3) W'')
      refine beh_silent rfl rfl (fun W₁ s => stepG_region_end) fun W₁ s1 => ?_
      refine beh_silent rfl rfl (fun W₁ s => stepG_seq) fun W₂ s2 => ?_
      refine beh_silent rfl rfl (fun W₁ s => by rw [rEM4_eq]; exact stepG_region) fun W₃ s3 => ?_
      rw [ops4_range]
      have h3 := kp _ _ s3 (kp _ _ s2 (kp _ _ s1 ⟨h5, hl5⟩))
      refine beh_silent rfl rfl (g' := G ((Conc.base 35).at ⟨#[.slice A' n cap, vf', .pointer (some ⟨W.heap.size, 0, none⟩), undef, .pointer (some ⟨W.heap.size + 2, 0, none⟩), .pointer (some ⟨W.heap.size + 3, 0, none⟩), undef, .chan (some (W.heap.size + 1)), .tuple #[], .func (.func 55) #[] #[.pointer (some ⟨W.heap.size + 3, 0, none⟩), .pointer (some ⟨W.heap.size + 2, 0, none⟩), .pointer (some ⟨W.heap.size, 0, none⟩)], undef, undef, undef, undef, undef, undef, undef, undef], []⟩ [.inRegion ops4 [1], .code (.seq (.seq rEM5 (.block 0 (.loop loopEM))) rEM9)]) (cf :: cs)) (fun W₄ s4 => ?_) fun W₄ s4 => ?_
      · have x1 : (execOp (Go.Act.mk #[.slice A' n cap, vf', .pointer (some ⟨W.heap.size, 0, none⟩), undef, .pointer (some ⟨W.heap.size + 2, 0, none⟩), .pointer (some ⟨W.heap.size + 3, 0, none⟩), undef, .chan (some (W.heap.size + 1)), .tuple #[], undef, undef, undef, undef, undef, undef, undef, undef, undef] []).eval oper40).run Try.prog W₄ = .ok (.value (.func (.func 55) #[] #[.pointer (some ⟨W.heap.size + 3, 0, none⟩), .pointer (some ⟨W.heap.size + 2, 0, none⟩), .pointer (some ⟨W.heap.size, 0, none⟩)])) W₄ := by simp [execOp, go_sem, Go.Act.eval]
        have x2 : (execOp (Go.Act.mk #[.slice A' n cap, vf', .pointer (some ⟨W.heap.size, 0, none⟩), undef, .pointer (some ⟨W.heap.size + 2, 0, none⟩), .pointer (some ⟨W.heap.size + 3, 0, none⟩), undef, .chan (some (W.heap.size + 1)), .tuple #[], undef, undef, undef, undef, undef, undef, undef, undef, undef] []).eval oper40).events Try.prog W₄ #[] = #[] := by simp [execOp, go_sem, Go.Act.eval]
        have hstp := stepG_value (main := true) (b := Conc.base 35) (a := ⟨#[.slice A' n cap, vf', .pointer (some ⟨W.heap.size, 0, none⟩), undef, .pointer (some ⟨W.heap.size + 2, 0, none⟩), .pointer (some ⟨W.heap.size + 3, 0, none⟩), undef, .chan (some (W.heap.size + 1)), .tuple #[], undef, undef, undef, undef, undef, undef, undef, undef, undef], []⟩) (rest := [1]) (cs := cf :: cs) (k := [.code (.seq (.seq rEM5 (.block 0 (.loop loopEM))) rEM9)]) ops4_0 rfl (by decide) x1
        rw [hstp]
        unfold listed
        rw [x2, Conc.seen_none]
        rfl
      refine BehE.usr rfl ?_
      unfold AtUsr
      show (_ : Nat) = 0 ∧ _
      refine ⟨rfl, fun W₇ s7 => ?_⟩
      have h7 := kp _ _ s7 (kp _ _ s4 h3)
      have hm := go_main hw hsh hk hs hslc hA hvf E hf hI0 hcont h7.1 h7.2
      have hc := go_child (Fin := finJ Post Shun (W.heap.size + 3)) (St := St) hw hW0 hs hlo hslc hn hA h7.1 h7.2
      refine ⟨_, _, tauM R St src W0 W, tauC R St src W0 W, ?_, rfl, rfl, ?_, ?_, ?_, ?_, ?_, ?_, hm, hc⟩
      · have x1 : (execOp (Go.Act.mk #[.slice A' n cap, vf', .pointer (some ⟨W.heap.size, 0, none⟩), undef, .pointer (some ⟨W.heap.size + 2, 0, none⟩), .pointer (some ⟨W.heap.size + 3, 0, none⟩), undef, .chan (some (W.heap.size + 1)), .tuple #[], .func (.func 55) #[] #[.pointer (some ⟨W.heap.size + 3, 0, none⟩), .pointer (some ⟨W.heap.size + 2, 0, none⟩), .pointer (some ⟨W.heap.size, 0, none⟩)], undef, undef, undef, undef, undef, undef, undef, undef] []).eval oper41).run Try.prog W₇ = .ok (.spawn { target := .fn (.func 55) #[.pointer (some ⟨W.heap.size + 3, 0, none⟩), .pointer (some ⟨W.heap.size + 2, 0, none⟩), .pointer (some ⟨W.heap.size, 0, none⟩)], args := #[] }) W₇ := by simp [execOp, go_sem, Go.Act.eval, resolve, Deferred.ofValue]
        have x2 : (execOp (Go.Act.mk #[.slice A' n cap, vf', .pointer (some ⟨W.heap.size, 0, none⟩), undef, .pointer (some ⟨W.heap.size + 2, 0, none⟩), .pointer (some ⟨W.heap.size + 3, 0, none⟩), undef, .chan (some (W.heap.size + 1)), .tuple #[], .func (.func 55) #[] #[.pointer (some ⟨W.heap.size + 3, 0, none⟩), .pointer (some ⟨W.heap.size + 2, 0, none⟩), .pointer (some ⟨W.heap.size, 0, none⟩)], undef, undef, undef, undef, undef, undef, undef, undef] []).eval oper41).events Try.prog W₇ #[] = #[] := by simp [execOp, go_sem, Go.Act.eval, resolve, Deferred.ofValue]
        have hstp := stepG_spawn (main := true) (b := Conc.base 35) (a := ⟨#[.slice A' n cap, vf', .pointer (some ⟨W.heap.size, 0, none⟩), undef, .pointer (some ⟨W.heap.size + 2, 0, none⟩), .pointer (some ⟨W.heap.size + 3, 0, none⟩), undef, .chan (some (W.heap.size + 1)), .tuple #[], .func (.func 55) #[] #[.pointer (some ⟨W.heap.size + 3, 0, none⟩), .pointer (some ⟨W.heap.size + 2, 0, none⟩), .pointer (some ⟨W.heap.size, 0, none⟩)], undef, undef, undef, undef, undef, undef, undef, undef], []⟩) (rest := []) (cs := cf :: cs) (k := [.code (.seq (.seq rEM5 (.block 0 (.loop loopEM))) rEM9)]) ops4_1 rfl (by decide) x1 rfl
        rw [hstp]
        unfold listed
        rw [x2, Conc.seen_none]
        rfl
      · rintro b (x | x)
        · exact .inl x
        · exact x.elim
      · rintro b ((x | x | x) | (x | x | x | x))
        · exact .inl (.inl x)
        · exact .inl (.inr x)
        · exact .inr (.inr (.inr (.inr x)))
        · exact .inl (.inl x)
        · exact .inl (.inr x)
        · exact .inr (.inr (.inl x))
        · exact .inr (.inr (.inr (.inr x)))
      · rintro b (x | x)
        · exact x.elim
        · exact .inr (.inl (.inr (.inr (.inl x))))
      · rintro b ⟨a, x, y⟩
        have hb := hlt a b x
        have hb2 := hstill b ⟨a, x, y⟩
        refine ⟨id, ?_, ?_⟩
        · rintro (z | ⟨a', x', y'⟩ | z | z)
          · omega
          · obtain rfl := hw.inj' a a' b (.inl x) (.inl x')
            exact y y'
          · omega
          · omega
        · intro z
          have z' : b = W.heap.size + 1 := z
          omega
      · intro b x
        exact x.elim
      · intro a ha
        obtain rfl : a = W.heap.size + 1 := List.mem_singleton.1 ha
        refine ⟨.inr (.inr (.inl rfl)), h7.1.b1, ?_, ?_, id, ?_⟩
        · rintro ⟨a, x, _⟩
          have := hlt a _ x; omega
        · rintro (z | ⟨a, x, _⟩ | z)
          · omega
          · have := hlt a _ x; omega
          · omega
        · rintro (z | ⟨a, x, _⟩ | z | z)
          · omega
          · have := hlt a _ x; omega
          · omega
          · omega
    -- the call of Add
    refine beh_silent rfl rfl (fun W₁ s => by rw [rEM3_eq]; exact stepG_region) fun W₁ s => ?_
    rw [ops3_range]
    refine beh_silent rfl rfl (g' := G ((Conc.base wgl.add).at ⟨#[.pointer (some ⟨W.heap.size + 3, 0, none⟩), .int .i64 1, undef, undef, undef, undef, undef, undef, undef, undef, undef, undef, undef, undef, undef, undef, undef, undef, undef, undef, undef, undef, undef, undef, undef, undef, undef, undef, undef, undef, undef, undef, undef, undef, undef, undef, undef, undef, undef, undef, undef, undef, undef, undef, undef, undef, undef, undef, undef, undef, undef, undef, undef, undef, undef, undef, undef, undef, undef, undef, undef, undef, undef, undef, undef, undef, undef, undef, undef, undef, undef, undef, undef, undef, undef, undef, undef, undef, undef, undef, undef, undef, undef, undef, undef, undef, undef, undef, undef, undef, undef, undef, undef, undef, undef, undef, undef, undef, undef, undef, undef, undef, undef, undef, undef, undef, undef, undef, undef, undef, undef, undef, undef, undef, undef, undef, undef], []⟩ [.code (body_add wgl)]) ((Conc.base 35).at ⟨#[.slice A' n cap, vf', .pointer (some ⟨W.heap.size, 0, none⟩), undef, .pointer (some ⟨W.heap.size + 2, 0, none⟩), .pointer (some ⟨W.heap.size + 3, 0, none⟩), undef, .chan (some (W.heap.size + 1)), undef, undef, undef, undef, undef, undef, undef, undef, undef, undef], []⟩ [.inRegion ops3 [0], .code (.seq rEM4 (.seq (.seq rEM5 (.block 0 (.loop loopEM))) rEM9))] :: cf :: cs)) (fun W₂ s2 => ?_) fun W₂ s2 => ?_
    · obtain ⟨x1, x2⟩ := exec_call (p := Try.prog) (o := oper3) rfl (ρ := (Go.Act.mk #[.slice A' n cap, vf', .pointer (some ⟨W.heap.size, 0, none⟩), undef, .pointer (some ⟨W.heap.size + 2, 0, none⟩), .pointer (some ⟨W.heap.size + 3, 0, none⟩), undef, .chan (some (W.heap.size + 1)), undef, undef, undef, undef, undef, undef, undef, undef, undef, undef] []).eval) (fun g => rfl) wgLib.f_add rfl rfl W₂
      have hargs : (#[.tmp 5, .const (.int .i64 1)] : Array Operand).map (Go.Act.mk #[.slice A' n cap, vf', .pointer (some ⟨W.heap.size, 0, none⟩), undef, .pointer (some ⟨W.heap.size + 2, 0, none⟩), .pointer (some ⟨W.heap.size + 3, 0, none⟩), undef, .chan (some (W.heap.size + 1)), undef, undef, undef, undef, undef, undef, undef, undef, undef, undef] []).eval = #[.pointer (some ⟨W.heap.size + 3, 0, none⟩), .int .i64 1] := by simp [Go.Act.eval]
      rw [hargs] at x1
      have hstp := stepG_enter (main := true) (b := Conc.base 35) (a := ⟨#[.slice A' n cap, vf', .pointer (some ⟨W.heap.size, 0, none⟩), undef, .pointer (some ⟨W.heap.size + 2, 0, none⟩), .pointer (some ⟨W.heap.size + 3, 0, none⟩), undef, .chan (some (W.heap.size + 1)), undef, undef, undef, undef, undef, undef, undef, undef, undef, undef], []⟩) (rest := []) (cs := cf :: cs) (k := [.code (.seq rEM4 (.seq (.seq rEM5 (.block 0 (.loop loopEM))) rEM9))]) ops3_at rfl (by decide) x1
      rw [hstp]
      unfold listed
      rw [x2, Conc.seen_none, ← add_ent]
    · have hput : Go.Act.put ⟨#[.slice A' n cap, vf', .pointer (some ⟨W.heap.size, 0, none⟩), undef, .pointer (some ⟨W.heap.size + 2, 0, none⟩), .pointer (some ⟨W.heap.size + 3, 0, none⟩), undef, .chan (some (W.heap.size + 1)), undef, undef, undef, undef, undef, undef, undef, undef, undef, undef], []⟩ ((ops3[0]?).bind (·.dst)) (.tuple #[]) = ⟨#[.slice A' n cap, vf', .pointer (some ⟨W.heap.size, 0, none⟩), undef, .pointer (some ⟨W.heap.size + 2, 0, none⟩), .pointer (some ⟨W.heap.size + 3, 0, none⟩), undef, .chan (some (W.heap.size + 1)), .tuple #[], undef, undef, undef, undef, undef, undef, undef, undef, undef], []⟩ := by rw [ops3_at]; rfl
      rw [← hput] at hgo
      exact addW (A := pipe (W.heap.size + 1) n (recVal rs)) (b₀ := Conc.base 35) (a₀ := ⟨#[.slice A' n cap, vf', .pointer (some ⟨W.heap.size, 0, none⟩), undef, .pointer (some ⟨W.heap.size + 2, 0, none⟩), .pointer (some ⟨W.heap.size + 3, 0, none⟩), undef, .chan (some (W.heap.size + 1)), undef, undef, undef, undef, undef, undef, undef, undef, undef, undef], []⟩) (ops₀ := ops3) (i₀ := 0) (rest₀ := []) (k₀ := [.code (.seq rEM4 (.seq (.seq rEM5 (.block 0 (.loop loopEM))) rEM9))]) (cs := cf :: cs) (Fin := finJ Post Shun (W.heap.size + 3)) (l := PpL.m0) (nx := PpL.m1) (Wg := W.heap.size + 3) wgLib rfl kf hgo W₂ ⟨kf.suf _ _ s2 (kf.suf _ _ s hF0), s2.live (s.live ⟨0, 0, hst.b3⟩)⟩
end
end Go.Proofs.Ytjcpjijihajopaa
namespace Go.Proofs.Ytjcpjijihajopaa
open Go.RowKit Go.Mt Go.Conc Go.Tt Go.Conc.Lib Go.ConcR.Gen
set_option linter.unusedVariables false
abbrev JE (St : Nat → Prop) (W0 : World) (Post : Value → World → Prop) (m : Fm) (ms : List Fm) (w : World) : Prop := JL Try.prog (inL olL) (inL alL) fsF St W0 Post m ms w
theorem ar_two {S : FuncId → Prop} {K R : Pr} {a b : Value} {xs' : Array Value} (h : ArR S K R #[a, b] xs') : ∃ a' b', xs' = #[a', b'] ∧ VR S K R a a' ∧ VR S K R b b' := by
  obtain ⟨l⟩ := xs'
  obtain ⟨h1, h2⟩ := h
  simp only [List.size_toArray, List.length_cons, List.length_nil] at h1
  match l, h1 with
  | [x, y], _ => exact ⟨x, y, rfl, h2 0 a x rfl rfl, h2 1 b y rfl rfl⟩
section
variable {St : Nat → Prop} {W0 : World} {Post : Value → World → Prop}
set_option maxRecDepth 100000 in
theorem jo_each {m : Fm} {ms : List Fm} {w : World} {ops : Array Oper} {i : Nat} {rest : List Nat} {k : List Item} {o : Oper} {args : Array Operand} {ats : Array TypeId} {A : Option Addr} {n cap : Nat} {f : FuncId} {capt : Array Value} {rs : List RecD} {I : Nat → World → Prop} {src : Option Blk}
    (hr : m.ret = false) (htd : m.todo = .inRegion ops (i :: rest) :: k) (ho : ops[i]? = some o) (hwt : Region.wanted o (yielded ops m.tmps) = true) (hop : o.op = .call ⟨.value (.func 35), args, ats⟩) (hargs : args.all (okX fsF) = true)
    (hv : args.map m.eval = #[.slice A n cap, .func (.func f) #[] capt]) (hs : srcOk w A src) (hlo : ∀ b, src = some b → Try.prog.globals.size ≤ b.rb) (hslc : Slc w 0 w.heap.size 7 A n cap (recs rs)) (hn : n ≤ 1048576) (E : EachI f capt rs I) (hf : gsF f = true) (hI0 : I 0 (ghostM w src 76))
    (hJ : ∀ wn, I n wn → JE St W0 Post (m.fin ops i rest k (.tuple #[])) ms (thaw wn src)) : JE St W0 Post m ms w := by
  refine JO.callF lvF hr htd ho hwt hop rfl hargs fun K R W m' ms' Shun xs' hw hm hms hsh hk hxs => ?_
  rw [hv] at hxs
  obtain ⟨a', vf', rfl, ha, hvf⟩ := ar_two hxs
  cases ha with
  | slice hA =>
    rename_i A'
    have htd' : m'.todo = .inRegion ops (i :: rest) :: k := hm.todo.symm.trans htd
    refine each_start hsh.new fun W4 hst => ?_
    refine each_phase (R := R) (W0 := W0) (St := St) (src := src) (cf := m'.fr) (cs := ms'.map Fm.fr) hw hsh hk hs hlo hslc hn hA hvf hst E hf hI0 fun K' R' wn Wn hK hR hrel hin hsh' hk' => ?_
    rw [finish_fr htd']
    exact hJ wn hin K' R' Wn _ ms' _ hrel ((FmR.monoK hK (hm.mono hR)).fin htd (.tuple rfl fun i v v' h => by simp at h)) (MsR.monoK hK (hms.mono hR)) hsh' hk'
end
end Go.Proofs.Ytjcpjijihajopaa
