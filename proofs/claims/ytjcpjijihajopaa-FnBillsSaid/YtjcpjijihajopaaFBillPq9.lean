/-
 Part 9 of what stands behind the last text.
-/
import Derived.Test.YtjcpjijihajopaaRows
import Derived.KernelRfl
import Derived.Maps.OwnOps
import Derived.Maps.Views
import Derived.Lib.ItoaNum
import Derived.Deep.CutRange
import Derived.Test.YtjcpjijihajopaaFBillPq8
set_option linter.unusedSectionVars false
set_option linter.unusedSimpArgs false
set_option linter.unusedVariables false
namespace Go.Proofs.Ytjcpjijihajopaa
open Go.RowKit Go.Mt Go.Conc Go.Tt Go.Conc.Lib Go.ConcR.Gen
abbrev wgl : WgLink := { add := 54, done := 56, wait := 57, relMerge := 63, disable := 64, enable := 65, inBubble := 66, associate := 67, fatal := 68, uOr := 69, uAdd := 70, raceRead := 71, uLoad := 72, uStore := 73, disassociate := 74, semrelease := 75, acquire := 76, isAssociated := 77, uCas := 78, raceWrite := 79, semacquire := 80, orU64 := 86, addU64 := 87, loadU64 := 88, storeU64 := 89, casU64 := 90, tWgP := 99, tUP := 101, tAssoc := 103, tWg := 86, tAU := 83, tU64 := 81, tUint := 107, tU32 := 84, tPU32 := 108, tPAU := 125, tPU64 := 127, tNoCopy := 78, tANoCopy := 79, tAlign64 := 80 }
theorem wgLib : WgLib Try.prog wgl :=
 ⟨Try.func54, Try.func56, Try.func57, Try.func63, Try.func64, Try.func65, Try.func66, Try.func67, Try.func68, Try.func69, Try.func70, Try.func71, Try.func72, Try.func73, Try.func74, Try.func75, Try.func76, Try.func77, Try.func78, Try.func79, Try.func80, Try.func86, Try.func87, Try.func88, Try.func89, Try.func90, Try.underlying99, Try.runUnderlying99, Try.sizeOf99, Try.isAgg99, Try.zeroValue99, Try.underlying101, Try.runUnderlying101, Try.sizeOf101, Try.isAgg101, Try.zeroValue101, Try.underlying103, Try.runUnderlying103, Try.sizeOf103, Try.isAgg103, Try.zeroValue103, Try.underlying86, Try.runUnderlying86, Try.sizeOf86, Try.isAgg86, Try.zeroValue86, Try.underlying83, Try.runUnderlying83, Try.sizeOf83, Try.isAgg83, Try.zeroValue83, Try.underlying81, Try.runUnderlying81, Try.sizeOf81, Try.isAgg81, Try.zeroValue81, Try.underlying107, Try.runUnderlying107, Try.sizeOf107, Try.isAgg107, Try.zeroValue107, Try.underlying84, Try.runUnderlying84, Try.sizeOf84, Try.isAgg84, Try.zeroValue84, Try.underlying108, Try.runUnderlying108, Try.sizeOf108, Try.isAgg108, Try.zeroValue108, Try.underlying125, Try.runUnderlying125, Try.sizeOf125, Try.isAgg125, Try.zeroValue125, Try.underlying127, Try.runUnderlying127, Try.sizeOf127, Try.isAgg127, Try.zeroValue127, Try.underlying0, Try.runUnderlying0, Try.sizeOf0, Try.isAgg0, Try.zeroValue0, Try.underlying3, Try.runUnderlying3, Try.sizeOf3, Try.isAgg3, Try.zeroValue3, Try.underlying4, Try.runUnderlying4, Try.sizeOf4, Try.isAgg4, Try.zeroValue4, Try.underlying9, Try.runUnderlying9, Try.sizeOf9, Try.isAgg9, Try.zeroValue9, Try.underlying20, Try.runUnderlying20, Try.sizeOf20, Try.isAgg20, Try.zeroValue20, Try.underlying21, Try.runUnderlying21, Try.sizeOf21, Try.isAgg21, Try.zeroValue21, (by kernel_rfl), (by kernel_rfl)⟩
instance : Go.ConcR.Payload := ⟨3⟩
end Go.Proofs.Ytjcpjijihajopaa
namespace Go.Proofs.Ytjcpjijihajopaa
open Go.Mt Go.Tt
def glL : List Nat := [25, 9, 10, 11, 13, 14, 16, 17, 19, 21, 22, 23, 24, 26, 27, 28, 29, 30, 31, 32, 33, 34, 36, 37, 38, 39, 40, 41, 42, 43, 44, 45, 46, 47, 48, 49, 50, 51, 52, 53, 58, 59, 60, 61, 62, 81, 82, 83, 84, 85, 91, 92, 93, 94, 95, 96, 97, 98, 99, 100, 101, 102, 103, 104, 105, 106, 107]
def alL : List Nat := [7, 8, 25, 3, 4, 5, 6, 9, 10, 11, 12, 13, 14, 15, 16, 17, 18, 19, 20, 21, 22, 23, 24, 26, 27, 28, 29, 30, 31, 32, 33, 34, 35, 36, 37, 38, 39, 40, 41, 42, 43, 44, 45, 46, 47, 48, 49, 50, 51, 52, 53, 58, 59, 60, 61, 62, 81, 82, 83, 84, 85, 91, 92, 93, 94, 95, 96, 97, 98, 99, 100, 101, 102, 103, 104, 105, 106, 107]
def flL : List Nat := [36, 39, 46]
def olL : List Nat := [35]
abbrev gsF : FuncId -> Bool := inL glL
abbrev fsF : FuncId -> Bool := inL flL
theorem zeros_all : zerosOk Try.prog = true := by kernel_rfl
theorem fit_gl : glL.all (fnFit Try.prog (inL flL) (inL glL)) = true := by kernel_rfl
theorem lvF : Lv Try.prog (inL olL) (inL alL) gsF fsF :=
 lv_of zeros_all fit_gl (by kernel_rfl) (by kernel_rfl) (by kernel_rfl)
theorem fitF : Fit3 (PS Try.prog gsF) fsF := fit3_of zeros_all fit_gl
end Go.Proofs.Ytjcpjijihajopaa
namespace Go.Proofs.Ytjcpjijihajopaa
open Go.RowKit Go.Mt Go.Conc Go.Tt Go.Conc.Lib Go.ConcR.Gen
noncomputable def bodyEC : Go.Code := (Try.f55.body).getD .skip
noncomputable def loopEC : Go.Code := match bodyEC with | .seq _ (.seq _ (.seq _ (.block _ (.loop c)))) => c | _ => .skip
noncomputable def rEC0 : Go.Code := match bodyEC with | .seq a _ => a | _ => .skip
noncomputable def rEC1 : Go.Code := match bodyEC with | .seq _ (.seq a _) => a | _ => .skip
noncomputable def rEC2 : Go.Code := match bodyEC with | .seq _ (.seq _ (.seq a _)) => a | _ => .skip
noncomputable def rEC3 : Go.Code := match loopEC with | .seq a _ => a | _ => .skip
noncomputable def rEC4 : Go.Code := match loopEC with | .seq _ (.seq _ (.seq (.block _ (.seq a _)) _)) => a | _ => .skip
noncomputable def rEC5 : Go.Code := match loopEC with | .seq _ (.seq _ (.seq (.block _ (.seq _ a)) _)) => a | _ => .skip
noncomputable def rEC6 : Go.Code := match loopEC with | .seq _ (.seq _ (.seq _ a)) => a | _ => .skip
theorem loopEC_eq : loopEC = .seq rEC3 (.seq (.cond (.tmp 9) .skip (.exit 0)) (.seq (.block 1 (.seq rEC4 rEC5)) rEC6)) := rfl
theorem bodyEC_eq : bodyEC = .seq rEC0 (.seq rEC1 (.seq rEC2 (.block 0 (.loop loopEC)))) := rfl
def recVal (rs : List RecD) (k : Nat) : Value := ((rs[k]?).map RecD.val).getD undef
noncomputable def childCx (Wg c n : Nat) (val : Nat -> Value) (Fin : Goroutine -> World -> Prop) (K : Pr) (St : Nat -> Prop) : Cx PpL :=
 { p := Try.prog, gs := gsF, fs := fsF, ty := wgl.tWg, Wg := Wg, A := pipe c n val, Fin := Fin, main := false, base := [botF Try.prog], ds := ⟨[], .deferred, by simp⟩, K := K, St := St, I := IC wgl.tWg Wg c, pin := [(0, .pointer (some ⟨Wg, 0, none⟩))] }
structure ChW (gc gv gr : Nat) (A : Option Addr) (n cap : Nat) (rs : List RecD) (w : World) : Prop where
 v : w.heap[gv]? = some (.cells #[.chan (some gc)] 76 (0, 1))
 r : w.heap[gr]? = some (.cells #[.slice A n cap] 25 (0, 1))
 s : Slc w 0 w.heap.size 7 A n cap (recs rs)
theorem ChW.keep {gc gv gr : Nat} {A : Option Addr} {n cap : Nat} {rs : List RecD} {w w' : World} (h : ChW gc gv gr A n cap rs w) (hb : Below w.heap.size w w') : ChW gc gv gr A n cap rs w' :=
 ⟨(blk_below hb h.v).1, (blk_below hb h.r).1, (h.s.below hb).wide (Nat.le_refl _) hb.size⟩
theorem recVal_vr {S : FuncId -> Prop} {K R : Pr} {d : RecD} {v' : Value} (h : VR S K R d.val v') : v' = d.val := by
 unfold RecD.val at h ⊢
 cases h with
 | agg e h =>
   rename_i xs'
   obtain ⟨l⟩ := xs'
   have h0 := h 0
   have h1 := h 1
   have h2 := h 2
   have h3 := h 3
   have h4 := h 4
   have h5 := h 5
   have h6 := h 6
   simp only [List.size_toArray, List.length_cons, List.length_nil] at e
   match l, e with
   | [a0, a1, a2, a3, a4, a5, a6], _ =>
     simp only [List.getElem?_toArray, List.getElem?_cons_zero, List.getElem?_cons_succ, Option.some.injEq] at h0 h1 h2 h3 h4 h5 h6
     cases h0 _ _ rfl rfl; cases h1 _ _ rfl rfl; cases h2 _ _ rfl rfl; cases h3 _ _ rfl rfl; cases h4 _ _ rfl rfl; cases h5 _ _ rfl rfl; cases h6 _ _ rfl rfl
     rfl
section
variable {Q : Exit -> Go.Act -> World -> Prop} {u0 u1 u2 u3 u4 u5 u6 u7 u8 u9 u10 u11 u12 u13 u14 : Value} {w : World}
set_option maxHeartbeats 1000000 in
theorem wpEC3 {k n : Nat} (hn : n <= 1048576) (hk : k <= n) (h : Q .normal ⟨#[u0, u1, u2, u3, u4, u5, u6, .int .i64 n, .int .i64 k, .bool (decide (k < n)), u10, u11, u12, u13, u14], []⟩ w) :
   Code.wp Try.prog rEC3 Q ⟨#[u0, u1, u2, u3, u4, u5, u6, .int .i64 n, .int .i64 k, u9, u10, u11, u12, u13, u14], []⟩ w := by
 simp only [rEC3, loopEC, bodyEC, Try.f55, Option.getD_some]
 go_wp2
 exact h
set_option maxHeartbeats 1000000 in
theorem wpEC6 {k n : Nat} (hn : n <= 1048576) (hk : k < n) (h : Q .normal ⟨#[u0, u1, u2, u3, u4, u5, u6, u7, .int .i64 (k + 1 : Nat), u9, u10, u11, u12, u13, .int .i64 (k + 1 : Nat)], []⟩ w) :
   Code.wp Try.prog rEC6 Q ⟨#[u0, u1, u2, u3, u4, u5, u6, u7, .int .i64 k, u9, u10, u11, u12, u13, u14], []⟩ w := by
 simp only [rEC6, loopEC, bodyEC, Try.f55, Option.getD_some]
 push_cast at h
 go_wp2
 exact h
set_option maxHeartbeats 1000000 in
theorem wpEC2 {gr n cap : Nat} {A : Option Addr} (hn : n <= 1048576) (hr : w.heap[gr]? = some (.cells #[.slice A n cap] 25 (0, 1))) (h : Q .normal ⟨#[u0, u1, .pointer (some ⟨gr, 0, none⟩), u3, u4, u5, .slice A n cap, .int .i64 n, .int .i64 0, u9, u10, u11, u12, u13, u14], []⟩ w) :
   Code.wp Try.prog rEC2 Q ⟨#[u0, u1, .pointer (some ⟨gr, 0, none⟩), u3, u4, u5, u6, u7, u8, u9, u10, u11, u12, u13, u14], []⟩ w := by
 have h0 := blk_cell hr 0
 simp only [rEC2, bodyEC, Try.f55, Option.getD_some]
 clear hr
 go_wp2
 exact h
set_option maxHeartbeats 1000000 in
theorem wpEC4 {b off k n cap : Nat} {d : RecD} (hn : n <= 1048576) (hc : n <= cap) (hcm : cap <= maxLen) (hk : k < n) (hd : RecAt w b (off + k * 7) d)
   (h : Q .normal ⟨#[u0, u1, u2, u3, .pointer (some ⟨w.heap.size, 0, none⟩), u5, .slice (some ⟨b, off, none⟩) n cap, .int .i64 n, .int .i64 k, u9, .pointer (some ⟨b, off + k * 7, none⟩), d.val, u12, u13, u14], []⟩ (w.alloc (.cells #[.int .i64 d.c, .int .i64 d.l, .int .i64 d.o, .int .i64 d.f, .int .i64 d.h, .int .i64 d.t, .string d.e] 50))) :
   Code.wp Try.prog rEC4 Q ⟨#[u0, u1, u2, u3, u4, u5, .slice (some ⟨b, off, none⟩) n cap, .int .i64 n, .int .i64 k, u9, u10, u11, u12, u13, u14], []⟩ w := by
 obtain ⟨h0, h1, h2, h3, h4, h5, h6⟩ := hd
 simp only [rEC4, loopEC, bodyEC, Try.f55, Option.getD_some]
 go_wp2
 exact h
end
theorem slc_tp {w : World} {lo hi s n c : Nat} {A : Option Addr} {xs : List Value} (h : Slc w lo hi s A n c xs) (T : Tape) (e : Nat) : Slc (Tt.tp w T e) lo hi s A n c xs := ⟨h.len, h.le, h.cap, h.at_⟩
theorem ChW.tp {gc gv gr : Nat} {A : Option Addr} {n cap : Nat} {rs : List RecD} {w : World} (h : ChW gc gv gr A n cap rs w) (T : Tape) (e : Nat) : ChW gc gv gr A n cap rs (Tt.tp w T e) := ⟨h.v, h.r, slc_tp h.s T e⟩
section
variable {Wg c n cap : Nat} {rs : List RecD} {A : Option Addr} {gc gv gr : Nat}
set_option maxHeartbeats 4000000 in
set_option maxRecDepth 100000 in
theorem each_child_loop (C : Cx PpL) (hp : C.p = Try.prog) (hgs : C.gs = gsF) (hfs : C.fs = fsF) (hA : C.A = pipe c n (recVal rs)) (hS : C.S = [0]) (hI : IOk C) (hK : C.K gc c) (hrs : rs.length = n) (hn : n <= 1048576) (hdone : ∀ tmps w, BO C (.sd n) ⟨55, tmps, [], true⟩ w) :
   ∀ (m k : Nat), k + m = n -> ∀ (w : World) (u3 u4 u5 u9 u10 u11 u12 u13 u14 : Value), ChW gc gv gr A n cap rs w ->
     BO C (.sd k) ⟨55, #[.nilFunc, .pointer (some ⟨gv, 0, none⟩), .pointer (some ⟨gr, 0, none⟩), u3, u4, u5, .slice A n cap, .int .i64 n, .int .i64 k, u9, u10, u11, u12, u13, u14], [.code loopEC, .inLoop loopEC, .inBlock 0], false⟩ w := by
 have F : Fit3 C.P C.fs := by unfold Cx.P; rw [hp, hgs, hfs]; exact fitF
 have fok : FnOk C.p 55 := ⟨_, by rw [hp]; exact Try.func55, .inl rfl⟩
 intro m
 induction m with
 | zero =>
   intro k hk w u3 u4 u5 u9 u10 u11 u12 u13 u14 hw
   obtain rfl : k = n := by omega
   rw [show Item.code loopEC = Item.code (.seq rEC3 (.seq (.cond (.tmp 9) .skip (.exit 0)) (.seq (.block 1 (.seq rEC4 rEC5)) rEC6))) from congrArg _ loopEC_eq]
   refine BO.seq hI ?_
   refine BO.piece F hI (by rw [hp, hfs, hgs]; kernel_rfl) fok (by rw [hS]; kernel_rfl) (λ T => ?_)
   rw [hp]
   refine wpEC3 hn (Nat.le_refl _) ⟨rfl, ?_⟩
   refine BO.seq hI ?_
   refine BO.cond hI (t := false) rfl (by simp [Go.Act.eval]) ?_
   exact BO.exit hI (k' := []) rfl (BO.fall hI (hdone _ _))
 | succ m ih =>
   intro k hk w u3 u4 u5 u9 u10 u11 u12 u13 u14 hw
   have hlt : k < n := by omega
   rw [show Item.code loopEC = Item.code (.seq rEC3 (.seq (.cond (.tmp 9) .skip (.exit 0)) (.seq (.block 1 (.seq rEC4 rEC5)) rEC6))) from congrArg _ loopEC_eq]
   refine BO.seq hI ?_
   refine BO.piece F hI (by rw [hp, hfs, hgs]; kernel_rfl) fok (by rw [hS]; kernel_rfl) (λ T => ?_)
   rw [hp]
   refine wpEC3 hn (by omega) ⟨rfl, ?_⟩
   replace hw := hw.tp T 0
   generalize Tt.tp w T 0 = w1 at hw ⊢
   refine BO.seq hI ?_
   refine BO.cond hI (t := true) rfl (by simp [Go.Act.eval, hlt]) ?_
   refine BO.skip hI ?_
   refine BO.seq hI ?_
   refine BO.block hI ?_
   refine BO.seq hI ?_
   obtain ⟨b, off, d, rfl, _, _, hb3, hdk, hd⟩ := hw.s.recAt hlt
   refine BO.piece F hI (by rw [hp, hfs, hgs]; kernel_rfl) fok (by rw [hS]; kernel_rfl) (λ T => ?_)
   rw [hp]
   replace hw := hw.tp T 0
   have hd' : RecAt (Tt.tp w1 T 0) b (off + k * 7) d := ⟨hd.c0, hd.c1, hd.c2, hd.c3, hd.c4, hd.c5, hd.c6⟩
   clear hd
   generalize Tt.tp w1 T 0 = w2 at hw hd' ⊢
   refine wpEC4 hn hw.s.le hw.s.cap hlt hd' ⟨rfl, ?_⟩
   generalize hcs : (#[.int .i64 d.c, .int .i64 d.l, .int .i64 d.o, .int .i64 d.f, .int .i64 d.h, .int .i64 d.t, .string d.e] : Array Value) = cs
   have hw3 := hw.keep (w' := w2.alloc (.cells cs 50)) (below_al (Below.refl _ _) _)
   have hr : (w2.alloc (.cells cs 50)).heap[w2.heap.size]? = some (.cells cs 50) := heap_alloc_new _ _
   generalize w2.heap.size = N at hr ⊢
   generalize w2.alloc (.cells cs 50) = w3 at hw3 hr ⊢
   clear hw hd'
   generalize hk0 : (Item.inBlock 1 :: Item.code rEC6 :: Item.inLoop loopEC :: [Item.inBlock 0]) = K0
   simp only [rEC5, loopEC, bodyEC, Try.f55, Option.getD_some]
   refine BO.regs hI [0, 1, 2] rfl ?_
   refine BO.op F hI (o := _) rfl rfl (by rw [hp, hfs, hgs]; kernel_rfl) (by intro s hs; rw [hS]; cases hs; decide) (λ T => ⟨.chan (some gc), Tt.tp w3 T 0, .inl ?_, ?_⟩)
   . rw [hp]
     exact exec_load1 (a := ⟨gv, 0, none⟩) rfl rfl (Try.isAgg76 _) (blk_cell (hw3.tp T 0).v 0)
   replace hw3 := hw3.tp T 0
   have hr' : (Tt.tp w3 T 0).heap[N]? = some (.cells cs 50) := hr
   clear hr
   generalize Tt.tp w3 T 0 = w4 at hw3 hr' ⊢
   refine BO.op F hI (o := _) rfl rfl (by rw [hp, hfs, hgs]; kernel_rfl) (by intro s hs; rw [hS]; cases hs; decide) (λ T => ⟨.agg cs, Tt.tp w4 T 0, .inl ?_, ?_⟩)
   . rw [hp]
     exact exec_loadRow (g := N) (T := 50) (fr := (0, 0)) rfl rfl hr' Try.underlying50 rfl (by rw [<- hcs]; kernel_rfl)
   replace hw3 := hw3.tp T 0
   generalize Tt.tp w4 T 0 = w5 at hw3 ⊢
   have hact : C.A.act (.sd k) = .send c (λ v => v = recVal rs k) (λ _ => []) (λ _ => .sd (k + 1)) := by rw [hA]; show pipeAct c n (recVal rs) (.sd k) = _; simp only [pipeAct, hlt, if_true]
   refine BO.send hI (o := _) (g := gc) (l' := .sd (k + 1)) rfl rfl rfl rfl rfl hK rfl (by intro s hs; cases hs) hact (λ R v' hv => ⟨?_, rfl, rfl⟩) ?_
   . have hv2 : VR (SF C.fs) C.K R d.val v' := by rw [show d.val = .agg cs by rw [<- hcs]; rfl]; exact hv
     rw [recVal_vr hv2]
     unfold recVal; rw [hdk]; rfl
   refine BO.regEnd hI ?_
   subst hk0
   refine BO.inBlock hI ?_
   refine BO.piece F hI (by rw [hp, hfs, hgs]; kernel_rfl) fok (by rw [hS]; kernel_rfl) (λ T => ?_)
   rw [hp]
   refine wpEC6 hn hlt ⟨rfl, ?_⟩
   refine BO.inLoop hI ?_
   exact ih (k + 1) (by omega) _ _ _ _ _ _ _ _ _ _ (hw3.tp T 0)
set_option maxHeartbeats 4000000 in
set_option maxRecDepth 100000 in
theorem each_child {Fin : Goroutine -> World -> Prop} {K : Pr} {St : Nat -> Prop} (hK : K gc c) (hrs : rs.length = n) (hn : n <= 1048576) {w : World} (hw : ChW gc gv gr A n cap rs w) :
   BO (childCx Wg c n (recVal rs) Fin K St) (.sd 0) ⟨55, #[.nilFunc, .pointer (some ⟨gv, 0, none⟩), .pointer (some ⟨gr, 0, none⟩), undef, undef, undef, undef, undef, undef, undef, undef, undef, undef, undef, undef], [.code bodyEC], false⟩ w := by
 let C := childCx Wg c n (recVal rs) Fin K St
 have hI : IOk C := ic_ok rfl
 let d1 := dcall 56 #[.pointer (some ⟨Wg, 0, none⟩)]
 let d2 := closeD #[76] 0 #[false] c
 have hI1 : IOk (C.dfr d1) := hI.dfr d1
 have hI2 : IOk ((C.dfr d1).dfr d2) := hI1.dfr d2
 have F : Fit3 C.P C.fs := fitF
 have fok : FnOk C.p 55 := ⟨_, Try.func55, .inl rfl⟩
 show BO C _ _ _
 rw [bodyEC_eq]
 refine BO.seq hI ?_
 generalize hk0 : (Item.code (rEC1.seq (rEC2.seq (Code.block 0 loopEC.loop))) :: ([] : List Item)) = K0
 simp only [rEC0, bodyEC, Try.f55, Option.getD_some]
 refine BO.regs hI [0] rfl ?_
 refine BO.defer hI (d := d1) (o := _) rfl rfl rfl (λ R w W tmps' _ _ hpin W₁ => ?_) ?_
 . have h0 := hpin (0, .pointer (some ⟨Wg, 0, none⟩)) (by show _ ∈ [_]; simp)
   have := exec_deferF (p := C.p) (o := ⟨none, .defer { callee := .value (.func 56), args := #[.tmp 0], argTypes := #[86] }, 0, "l8_bills.go:68", #[], none⟩) (ρ := (Go.Act.mk tmps' C.ds.ds).eval) rfl rfl W₁
   simp only [List.map_toArray, List.map_cons, List.map_nil, Go.Act.eval] at this
   simp only at h0
   rw [h0] at this
   exact this
 refine BO.regEnd hI1 ?_
 subst hk0
 refine BO.seq hI1 ?_
 generalize hk0 : (Item.code (rEC2.seq (Code.block 0 loopEC.loop)) :: ([] : List Item)) = K0
 simp only [rEC1, bodyEC, Try.f55, Option.getD_some]
 refine BO.regs hI1 [0, 1] rfl ?_
 refine BO.op (C := C.dfr d1) F hI1 (o := _) rfl rfl (by kernel_rfl) (by intro s hs; cases hs; show (5 : Nat) ∉ ([0] : List Nat); decide) (λ T => ⟨.chan (some gc), Tt.tp w T 0, .inl ?_, ?_⟩)
 . exact exec_load1 (a := ⟨gv, 0, none⟩) rfl rfl (Try.isAgg76 _) (blk_cell (hw.tp T 0).v 0)
 replace hw := hw.tp T 0
 generalize Tt.tp w T 0 = w1 at hw ⊢
 refine BO.defer hI1 (d := d2) (o := _) rfl rfl rfl (λ R w W tmps' hrel ha _ W₁ => ?_) ?_
 . have h5 := ha.getD 5 (vr_undef (S := SF C.fs) (K := K) (R := R))
   have h5' : tmps'.getD 5 undef = .chan (some c) := chan_rel (C := C.dfr d1) hrel hK h5
   have := exec_deferC (p := C.p) (o := ⟨none, .defer { callee := .builtin .close, args := #[.tmp 5], argTypes := #[76] }, 0, "l8_bills.go:69", #[{ on := 0, ground := Ground.data }], none⟩) (ρ := (Go.Act.mk tmps' (C.dfr d1).ds.ds).eval) (c := c) rfl h5' W₁
   exact this
 refine BO.regEnd hI2 ?_
 subst hk0
 refine BO.seq hI2 ?_
 refine BO.piece (C := (C.dfr d1).dfr d2) F hI2 (by kernel_rfl) fok (by kernel_rfl) (λ T => ?_)
 replace hw := hw.tp T 0
 generalize Tt.tp w1 T 0 = w2 at hw ⊢
 refine wpEC2 hn hw.r ⟨rfl, ?_⟩
 refine BO.block hI2 ?_
 refine BO.loop hI2 ?_
 refine each_child_loop ((C.dfr d1).dfr d2) rfl rfl rfl rfl rfl hI2 hK hrs hn (λ tmps w => ?_) n 0 (by omega) _ _ _ _ _ _ _ _ _ _ hw
 intro R W m' τ hr hm ht hi
 obtain ⟨fn', tmps', todo', ret'⟩ := m'
 obtain rfl := hm.fn
 obtain rfl := hm.todo
 obtain rfl := hm.ret
 rw [fx_ret]
 have hi' : IC wgl.tWg Wg c R τ W := hi
 exact child_end wgLib (A := pipe c n (recVal rs)) (l := .sd n) (nx := .dn) (by show pipeAct c n _ (.sd n) = _; simp [pipeAct]) rfl (λ _ => trivial) Try.func55 rfl rfl hi'.pass hi'.live tmps' [] #[76] 0 #[false]
end
end Go.Proofs.Ytjcpjijihajopaa
namespace Go.Proofs.Ytjcpjijihajopaa
open Go.RowKit Go.Mt Go.Conc Go.Tt Go.Conc.Lib Go.ConcR.Gen
noncomputable def bodyEM : Go.Code := (Try.f35.body).getD .skip
noncomputable def rEM0 : Go.Code := match bodyEM with | .seq a _ => a | _ => .skip
noncomputable def rEM1 : Go.Code := match bodyEM with | .seq _ (.seq a _) => a | _ => .skip
noncomputable def rEM2 : Go.Code := match bodyEM with | .seq _ (.seq _ (.seq a _)) => a | _ => .skip
noncomputable def rEM3 : Go.Code := match bodyEM with | .seq _ (.seq _ (.seq _ (.seq a _))) => a | _ => .skip
noncomputable def rEM4 : Go.Code := match bodyEM with | .seq _ (.seq _ (.seq _ (.seq _ (.seq a _)))) => a | _ => .skip
noncomputable def rEM5 : Go.Code := match bodyEM with | .seq _ (.seq _ (.seq _ (.seq _ (.seq _ (.seq (.seq a _) _))))) => a | _ => .skip
noncomputable def rEM9 : Go.Code := match bodyEM with | .seq _ (.seq _ (.seq _ (.seq _ (.seq _ (.seq _ a))))) => a | _ => .skip
noncomputable def loopEM : Go.Code := match bodyEM with | .seq _ (.seq _ (.seq _ (.seq _ (.seq _ (.seq (.seq _ (.block _ (.loop a))) _))))) => a | _ => .skip
noncomputable def rEM6 : Go.Code := match loopEM with | .seq a _ => a | _ => .skip
noncomputable def rEM7 : Go.Code := match loopEM with | .seq _ (.seq _ (.block _ (.seq a _))) => a | _ => .skip
noncomputable def rEM8 : Go.Code := match loopEM with | .seq _ (.seq _ (.block _ (.seq _ a))) => a | _ => .skip
theorem loopEM_eq : loopEM = .seq rEM6 (.seq (.cond (.tmp 12) .skip (.exit 0)) (.block 1 (.seq rEM7 rEM8))) := rfl
theorem bodyEM_eq : bodyEM = .seq rEM0 (.seq rEM1 (.seq rEM2 (.seq rEM3 (.seq rEM4 (.seq (.seq rEM5 (.block 0 (.loop loopEM))) rEM9))))) := rfl
structure EachI (f : FuncId) (cap : Array Value) (rs : List RecD) (I : Nat -> World -> Prop) : Prop where
 tape : ∀ k w T e, I k w -> I k (Tt.tp w T e)
 al : ∀ k w cs T, I k w -> I k (w.alloc (.cells cs T))
 step : ∀ k w d, rs[k]? = some d -> I k w -> Calls Try.prog f (#[d.val] ++ cap) w (λ e w' => ∃ v, e = .returned v /\ I (k + 1) w')
section
variable {Q : Exit -> Go.Act -> World -> Prop} {u0 u1 u2 u3 u4 u5 u6 u7 u8 u9 u10 u11 u12 u13 u14 u15 u16 u17 : Value} {w : World}
set_option maxHeartbeats 1000000 in
theorem wpEM7 {d : RecD} (h : Q .normal ⟨#[u0, u1, u2, u3, u4, u5, .pointer (some ⟨w.heap.size, 0, none⟩), u7, u8, u9, u10, .tuple #[d.val, .bool true], u12, d.val, u14, u15, u16, u17], []⟩ (w.alloc (.cells #[.int .i64 d.c, .int .i64 d.l, .int .i64 d.o, .int .i64 d.f, .int .i64 d.h, .int .i64 d.t, .string d.e] 50))) :
   Code.wp Try.prog rEM7 Q ⟨#[u0, u1, u2, u3, u4, u5, u6, u7, u8, u9, u10, .tuple #[d.val, .bool true], u12, u13, u14, u15, u16, u17], []⟩ w := by
 unfold RecD.val at h ⊢
 simp only [rEM7, loopEM, bodyEM, Try.f35, Option.getD_some]
 go_wp2
 exact h
end
section
variable {c n cap : Nat} {rs : List RecD} {gc gv : Nat} {f : FuncId} {capt : Array Value} {I : Nat -> World -> Prop}
theorem recVal_at {rs : List RecD} {k : Nat} {d : RecD} (h : rs[k]? = some d) : recVal rs k = d.val := by unfold recVal; rw [h]; rfl
theorem recD_vr (d : RecD) {S : FuncId -> Prop} {K R : Pr} : VR S K R d.val d.val := by
 unfold RecD.val
 exact .agg' (((((((ArR.empty.push (.int _ _)).push (.int _ _)).push (.int _ _)).push (.int _ _)).push (.int _ _)).push (.int _ _)).push (.string _))
set_option maxHeartbeats 4000000 in
set_option maxRecDepth 100000 in
theorem each_main_loop (C : Cx PpL) (hp : C.p = Try.prog) (hgs : C.gs = gsF) (hfs : C.fs = fsF) (hA : C.A = pipe c n (recVal rs)) (hS : C.S = [5]) (hI : IOk C) (hK : C.K gc c) (hrs : rs.length = n) (E : EachI f capt rs I) (hf : gsF f = true)
   (hwait : ∀ tmps w, I n w -> BO C .wt ⟨35, tmps, [.code rEM9], false⟩ w) :
   ∀ (m k : Nat), k + m = n -> ∀ (w : World) (u0 u2 u3 u6 u7 u8 u9 u11 u12 u13 u14 u15 u16 u17 : Value), I k w ->
     BO C (.rv k) ⟨35, #[u0, .func (.func f) #[] capt, u2, u3, .pointer (some ⟨gv, 0, none⟩), .nilFunc, u6, u7, u8, u9, .chan (some gc), u11, u12, u13, u14, u15, u16, u17], [.code loopEM, .inLoop loopEM, .inBlock 0, .code rEM9], false⟩ w := by
 have F : Fit3 C.P C.fs := by unfold Cx.P; rw [hp, hgs, hfs]; exact fitF
 have fok : FnOk C.p 35 := ⟨_, by rw [hp]; exact Try.func35, .inl rfl⟩
 have hz0 : (Try.prog.info? 50).map (λ i => i.zero) = some (some (RecD.val ⟨0, 0, 0, 0, 0, 0, ⟨#[]⟩⟩)) := by kernel_rfl
 obtain ⟨ie, hie, hz⟩ := Option.map_eq_some_iff.1 hz0
 have hie' : C.p.info? 50 = some ie := by rw [hp]; exact hie
 have hct : C.p.underlying 76 = some (.chan .both 50) := by rw [hp]; exact Try.underlying76
 have ext : ∀ (a b : Value) (W : World), (Instr.extract (.tuple #[a, b]) 1).run Try.prog W = .ok b W := λ a b W => by simp [Instr.extract, go_sem]
 intro m
 induction m with
 | zero =>
   intro k hk w u0 u2 u3 u6 u7 u8 u9 u11 u12 u13 u14 u15 u16 u17 hw
   obtain rfl : k = n := by omega
   rw [show Item.code loopEM = Item.code (.seq rEM6 (.seq (.cond (.tmp 12) .skip (.exit 0)) (.block 1 (.seq rEM7 rEM8)))) from congrArg _ loopEM_eq]
   refine BO.seq hI ?_
   generalize hk0 : (Item.code (.seq (.cond (.tmp 12) .skip (.exit 0)) (.block 1 (.seq rEM7 rEM8))) :: Item.inLoop loopEM :: Item.inBlock 0 :: [Item.code rEM9]) = K0
   simp only [rEM6, loopEM, bodyEM, Try.f35, Option.getD_some]
   refine BO.regs hI [0, 1] rfl ?_
   have hact : C.A.act (.rv k) = .recv c (λ v => k < k /\ v = recVal rs k) (λ _ => .rv (k + 1)) .wt := by rw [hA]; rfl
   refine BO.recv hI (o := _) (g := gc) rfl rfl rfl hct hie' hz (λ R => recD_vr _) rfl rfl hK (by intro s hs; rw [hS]; cases hs; decide) hact (λ v hv => absurd hv.1 (Nat.lt_irrefl _)) (λ _ => ?_)
   refine BO.op F hI (o := _) rfl rfl (by rw [hp, hfs, hgs]; kernel_rfl) (by intro s hs; rw [hS]; cases hs; decide) (λ T => ⟨.bool false, Tt.tp w T 0, .inl ?_, ?_⟩)
   . rw [hp]
     have := ext (RecD.val ⟨0, 0, 0, 0, 0, 0, ⟨#[]⟩⟩) (.bool false) (Tt.tp w T 0)
     show Sem.run _ (Sem.bind (Instr.extract (.tuple #[RecD.val ⟨0, 0, 0, 0, 0, 0, ⟨#[]⟩⟩, .bool false]) 1) (λ v => Sem.pure (Next.value v))) _ = _
     rw [Sem.run_bind', this]; rfl
   refine BO.regEnd hI ?_
   subst hk0
   refine BO.seq hI ?_
   refine BO.cond hI (t := false) rfl rfl ?_
   exact BO.exit hI (k' := [.code rEM9]) rfl (hwait _ _ (E.tape _ _ _ _ hw))
 | succ m ih =>
   intro k hk w u0 u2 u3 u6 u7 u8 u9 u11 u12 u13 u14 u15 u16 u17 hw
   have hlt : k < n := by omega
   obtain ⟨d, hd⟩ : ∃ d, rs[k]? = some d := ⟨rs[k], List.getElem?_eq_getElem (by omega)⟩
   rw [show Item.code loopEM = Item.code (.seq rEM6 (.seq (.cond (.tmp 12) .skip (.exit 0)) (.block 1 (.seq rEM7 rEM8)))) from congrArg _ loopEM_eq]
   refine BO.seq hI ?_
   generalize hk0 : (Item.code (.seq (.cond (.tmp 12) .skip (.exit 0)) (.block 1 (.seq rEM7 rEM8))) :: Item.inLoop loopEM :: Item.inBlock 0 :: [Item.code rEM9]) = K0
   simp only [rEM6, loopEM, bodyEM, Try.f35, Option.getD_some]
   refine BO.regs hI [0, 1] rfl ?_
   have hact : C.A.act (.rv k) = .recv c (λ v => k < n /\ v = recVal rs k) (λ _ => .rv (k + 1)) .wt := by rw [hA]; rfl
   refine BO.recv hI (o := _) (g := gc) rfl rfl rfl hct hie' hz (λ R => recD_vr _) rfl rfl hK (by intro s hs; rw [hS]; cases hs; decide) hact (λ v hv => ⟨d.val, λ R => ?_, ?_⟩) (λ hcl => ?_)
   . rw [hv.2, recVal_at hd]; exact recD_vr d
   rotate_left
   . exfalso
     rw [hA] at hcl
     have hcl' : PpL.rv k = PpL.rv n := hcl
     cases hcl'
     omega
   refine BO.op F hI (o := _) rfl rfl (by rw [hp, hfs, hgs]; kernel_rfl) (by intro s hs; rw [hS]; cases hs; decide) (λ T => ⟨.bool true, Tt.tp w T 0, .inl ?_, ?_⟩)
   . rw [hp]
     have := ext d.val (.bool true) (Tt.tp w T 0)
     show Sem.run _ (Sem.bind (Instr.extract (.tuple #[d.val, .bool true]) 1) (λ v => Sem.pure (Next.value v))) _ = _
     rw [Sem.run_bind', this]; rfl
   replace hw := E.tape _ _ T 0 hw
   generalize Tt.tp w T 0 = w1 at hw ⊢
   refine BO.regEnd hI ?_
   subst hk0
   refine BO.seq hI ?_
   refine BO.cond hI (t := true) rfl rfl ?_
   refine BO.skip hI ?_
   refine BO.block hI ?_
   refine BO.seq hI ?_
   refine BO.piece F hI (by rw [hp, hfs, hgs]; kernel_rfl) fok (by rw [hS]; kernel_rfl) (λ T => ?_)
   rw [hp]
   replace hw := E.tape _ _ T 0 hw
   generalize Tt.tp w1 T 0 = w2 at hw ⊢
   refine wpEM7 ⟨rfl, ?_⟩
   generalize hcs : (#[.int .i64 d.c, .int .i64 d.l, .int .i64 d.o, .int .i64 d.f, .int .i64 d.h, .int .i64 d.t, .string d.e] : Array Value) = cs
   have hr : (w2.alloc (.cells cs 50)).heap[w2.heap.size]? = some (.cells cs 50) := heap_alloc_new _ _
   replace hw := E.al _ _ cs 50 hw
   generalize w2.heap.size = N at hr ⊢
   generalize w2.alloc (.cells cs 50) = w3 at hw hr ⊢
   generalize hk0 : (Item.inBlock 1 :: Item.inLoop loopEM :: Item.inBlock 0 :: [Item.code rEM9]) = K0
   simp only [rEM8, loopEM, bodyEM, Try.f35, Option.getD_some]
   refine BO.regs hI [0, 1, 2] rfl ?_
   refine BO.op F hI (o := _) rfl rfl (by rw [hp, hfs, hgs]; kernel_rfl) (by intro s hs; rw [hS]; cases hs; decide) (λ T => ⟨.func (.func f) #[] capt, Tt.tp w3 T 0, .inl rfl, ?_⟩)
   replace hw := E.tape _ _ T 0 hw
   have hr' : (Tt.tp w3 T 0).heap[N]? = some (.cells cs 50) := hr
   clear hr
   generalize Tt.tp w3 T 0 = w4 at hw hr' ⊢
   refine BO.op F hI (o := _) rfl rfl (by rw [hp, hfs, hgs]; kernel_rfl) (by intro s hs; rw [hS]; cases hs; decide) (λ T => ⟨.agg cs, Tt.tp w4 T 0, .inl ?_, ?_⟩)
   . rw [hp]
     exact exec_loadRow (g := N) (T := 50) (fr := (0, 0)) rfl rfl hr' Try.underlying50 rfl (by rw [<- hcs]; kernel_rfl)
   replace hw := E.tape _ _ T 0 hw
   generalize Tt.tp w4 T 0 = w5 at hw ⊢
   refine BO.callL F hI (o := _) (x := .tmp 14) (f := f) (first := #[]) (cap := capt) rfl rfl rfl (.dyn rfl rfl) (by simp [okX]) (by rw [hgs]; exact hf) (by intro s hs; rw [hS]; cases hs; decide) (Q := λ _ w' => I (k + 1) w') (λ _ _ _ _ h => E.tape _ _ _ _ h) (λ T => ?_) (λ v w' hQ => ?_)
   . rw [hp]
     have := E.step k (Tt.tp w5 T 0) d hd (E.tape _ _ _ _ hw)
     have e : d.val = .agg cs := by rw [<- hcs]; rfl
     rw [e] at this
     simpa [Go.Act.put, Go.Act.eval] using this
   refine BO.regEnd hI ?_
   subst hk0
   refine BO.inBlock hI ?_
   refine BO.inLoop hI ?_
   exact ih (k + 1) (by omega) _ _ _ _ _ _ _ _ _ _ _ _ _ _ _ hQ
end
end Go.Proofs.Ytjcpjijihajopaa
namespace Go.Proofs.Ytjcpjijihajopaa
open Go.RowKit Go.Mt Go.Conc Go.Tt Go.Conc.Lib Go.ConcR.Gen
structure St4 (W W4 : World) (v1 : Value) : Prop where
 size : W4.heap.size = W.heap.size + 4
 keep : ∀ b, b < W.heap.size -> W4.heap[b]? = W.heap[b]?
 b0 : W4.heap[W.heap.size]? = some (.cells #[v1] 25)
 b1 : W4.heap[W.heap.size + 1]? = some (.chan 0 #[] false 0 0 false)
 b2 : W4.heap[W.heap.size + 2]? = some (.cells #[.chan (some (W.heap.size + 1))] 76)
 b3 : Go.ConcR.WgAt 86 (W.heap.size + 3) W4 0 0
 os : W4.os = W.os
 tape : W4.tape = W.tape
 output : W4.output = W.output
set_option maxHeartbeats 4000000 in
set_option maxRecDepth 100000 in
theorem each_start {Post : Value -> World -> Prop} {Shun : Loc -> Prop} {W : World} {A : Option Addr} {n cap : Nat} {v2 : Value} {CS : List Frame} (hsh : ∀ l b, onB l b -> W.heap.size <= b -> ¬ Shun l)
   (h : ∀ W4, St4 W W4 (.slice A n cap) -> J Try.prog Post Shun (W.heap.size + 3) (G ((Conc.base 35).at ⟨#[.slice A n cap, v2, .pointer (some ⟨W.heap.size, 0, none⟩), undef, .pointer (some ⟨W.heap.size + 2, 0, none⟩), .pointer (some ⟨W.heap.size + 3, 0, none⟩), undef, .chan (some (W.heap.size + 1)), undef, undef, undef, undef, undef, undef, undef, undef, undef, undef], []⟩
     [.code rEM3, .code (.seq rEM4 (.seq (.seq rEM5 (.block 0 (.loop loopEM))) rEM9))]) CS) W4) :
   J Try.prog Post Shun W.heap.size (G (Frame.enter Try.prog 35 #[.slice A n cap, v2] .normal) CS) W := by
 obtain ⟨ie, hie⟩ : ∃ ie, Try.prog.info? 50 = some ie := Option.isSome_iff_exists.1 (by kernel_rfl)
 have hent : Frame.enter Try.prog 35 #[.slice A n cap, v2] .normal = (Conc.base 35).at ⟨#[.slice A n cap, v2, undef, undef, undef, undef, undef, undef, undef, undef, undef, undef, undef, undef, undef, undef, undef, undef], []⟩ [.code bodyEM] := Conc.enter_at _ Try.func35 rfl
 rw [hent, bodyEM_eq]
 have start : ∀ d, J Try.prog Post Shun W.heap.size (G ((Conc.base 35).at ⟨#[.slice A n cap, v2, undef, undef, undef, undef, undef, undef, undef, undef, undef, undef, undef, undef, undef, undef, undef, undef], []⟩ [.code (.seq rEM0 (.seq rEM1 (.seq rEM2 (.seq rEM3 (.seq rEM4 (.seq (.seq rEM5 (.block 0 (.loop loopEM))) rEM9))))))]) CS) (W.at d) := by
   generalize hk0 : Code.seq rEM4 (.seq (.seq rEM5 (.block 0 (.loop loopEM))) rEM9) = K0 at h
   refine J.sil rfl (λ w => stepG_seq) ?_
   generalize hk1 : Code.seq rEM1 (.seq rEM2 (.seq rEM3 K0)) = K1
   simp only [rEM0, bodyEM, Try.f35, Option.getD_some]
   refine J.sil rfl (λ w => stepG_region) ?_
   refine J.opv (o := _) (v := .pointer (some ⟨W.heap.size, 0, none⟩)) (w' := W.alloc (.cells #[.slice A n cap] 25)) rfl rfl (by decide) (λ d => .inl ?_) (λ d e he => ?_) (by rw [size_push]; omega) ?_
   . show _ = Result.ok _ ((W.at d).alloc _)
     have hz : (W.at d).heap.size = W.heap.size := rfl
     rw [<- hz]
     simp [execOp, go_sem, Go.Act.eval]
   . simp [execOp, go_sem, Go.Act.eval] at he
   generalize hW1 : W.alloc (.cells #[.slice A n cap] 25) = W1
   have s1 : W1.heap.size = W.heap.size + 1 := by rw [<- hW1, size_push]
   refine J.sil rfl (λ w => stepG_region_end) ?_
   subst hk1
   refine J.sil rfl (λ w => stepG_seq) ?_
   generalize hk1 : Code.seq rEM2 (.seq rEM3 K0) = K1
   simp only [rEM1, bodyEM, Try.f35, Option.getD_some]
   refine J.sil rfl (λ w => stepG_region) ?_
   refine J.opv (o := _) (v := .chan (some (W.heap.size + 1))) (w' := W1.alloc (.chan 0 #[] false 0 0 false)) rfl rfl (by decide) (λ d => .inl ?_) (λ d e he => ?_) (by rw [size_push]; omega) ?_
   . show _ = Result.ok _ ((W1.at d).alloc _)
     have hz : (W1.at d).heap.size = W.heap.size + 1 := s1
     rw [<- hz]
     have hm : (Instr.makeChan 76 (.int .i64 0)).run Try.prog (W1.at d) = _ := run_makeChan (P := Try.prog) (w := W1.at d) Try.underlying76 hie .i64 0 (by omega) (by omega)
     exact run_bv hm
   . have hm : (Instr.makeChan 76 (.int .i64 0)).run Try.prog (W1.at d) = _ := run_makeChan (P := Try.prog) (w := W1.at d) Try.underlying76 hie .i64 0 (by omega) (by omega)
     have hv := events_makeChan (P := Try.prog) (w := W1.at d) Try.underlying76 hie .i64 0 (by omega) (by omega) #[]
     have := ev_bv hm hv
     rw [show Sem.events _ (execOp _ _) _ _ = #[] from this] at he
     simp at he
   generalize hW2 : W1.alloc (.chan 0 #[] false 0 0 false) = W2
   have s2 : W2.heap.size = W.heap.size + 2 := by rw [<- hW2, size_push, s1]
   refine J.opv (o := _) (v := .pointer (some ⟨W.heap.size + 2, 0, none⟩)) (w' := W2.alloc (.cells #[.chan none] 76)) rfl rfl (by decide) (λ d => .inl ?_) (λ d e he => ?_) (by rw [size_push]; omega) ?_
   . show _ = Result.ok _ ((W2.at d).alloc _)
     have hz : (W2.at d).heap.size = W.heap.size + 2 := s2
     rw [<- hz]
     simp [execOp, go_sem, Go.Act.eval]
   . simp [execOp, go_sem, Go.Act.eval] at he
   generalize hW3 : W2.alloc (.cells #[.chan none] 76) = W3
   have s3 : W3.heap.size = W.heap.size + 3 := by rw [<- hW3, size_push, s2]
   have hb2 : W3.heap[W.heap.size + 2]? = some (.cells #[.chan none] 76) := by rw [<- hW3, <- s2]; exact heap_push _ _
   refine J.opv (o := _) (v := undef) (w' := W3.setCell ⟨W.heap.size + 2, 0, none⟩ (.chan (some (W.heap.size + 1)))) rfl rfl (by decide) (λ d => .inr ⟨?_, rfl⟩) (λ d e he => ?_) (by rw [setCell_size]; omega) ?_
   . have hc := blk_cell (w := W3.at d) hb2 0
     have hf := blk_frozen' (w := W3.at d) hb2 0
     show _ = Result.ok _ ((W3.at d).setCell _ _)
     simp [execOp, go_sem, Go.Act.eval, Go.Act.put, stored, hc, hf]
   . have hc := blk_cell (w := W3.at d) hb2 0
     have hf := blk_frozen' (w := W3.at d) hb2 0
     simp [execOp, go_sem, Go.Act.eval, Go.Act.put, storedEv, hc, hf] at he
     subst he
     exact evL_own (hsh _ (W.heap.size + 2) rfl (by omega)) (by rw [setCell_size, s3]; show W.heap.size + 2 < _; omega)
   have hb2' := blk_setCell hb2 (.chan (some (W.heap.size + 1))) (i := 0)
   have hW4k : ∀ b, b ≠ W.heap.size + 2 -> (W3.setCell ⟨W.heap.size + 2, 0, none⟩ (.chan (some (W.heap.size + 1)))).heap[b]? = W3.heap[b]? := λ b hb => setCell_ne W3 _ _ hb
   have hW4s : (W3.setCell ⟨W.heap.size + 2, 0, none⟩ (.chan (some (W.heap.size + 1)))).heap.size = W.heap.size + 3 := by rw [setCell_size, s3]
   have hA := aside_setCell W3 ⟨W.heap.size + 2, 0, none⟩ (.chan (some (W.heap.size + 1)))
   generalize hW4 : W3.setCell ⟨W.heap.size + 2, 0, none⟩ (.chan (some (W.heap.size + 1))) = W4 at hb2' hW4k hW4s hA ⊢
   refine J.sil rfl (λ w => stepG_region_end) ?_
   subst hk1
   refine J.sil rfl (λ w => stepG_seq) ?_
   simp only [rEM2, bodyEM, Try.f35, Option.getD_some]
   refine J.sil rfl (λ w => stepG_region) ?_
   rw [hW4s]
   refine J.opq (o := _) (v := .pointer (some ⟨W.heap.size + 3, 0, none⟩)) (w' := W4.alloc (.cells #[.int .u64 0, .int .u32 0] 86)) rfl rfl (by decide) (λ d => ?_) (λ d e he => ?_) ?_
   . show _ = Result.ok _ ((W4.at d).alloc _)
     have hz : (W4.at d).heap.size = W.heap.size + 3 := hW4s
     rw [<- hz]
     simp [execOp, go_sem, Go.Act.eval]
   . simp [execOp, go_sem, Go.Act.eval] at he
   refine J.sil rfl (λ w => stepG_region_end) ?_
   refine J.sil rfl (λ w => stepG_seq) ?_
   subst hk0
   intro d
   have k1 : ∀ b, b < W.heap.size + 1 -> W4.heap[b]? = W1.heap[b]? := λ b hb => by
     rw [hW4k b (by omega), <- hW3, heap_push_lt (by rw [s2]; omega), <- hW2, heap_push_lt (by rw [s1]; omega)]
   have hst : St4 W ((W4.alloc (.cells #[.int .u64 0, .int .u32 0] 86)).at d) (.slice A n cap) := by
    refine ⟨?_, λ b hb => ?_, ?_, ?_, ?_, ?_, ?_, ?_, ?_⟩
    . show (W4.alloc _).heap.size = _
      rw [size_push, hW4s]
    . show (W4.alloc _).heap[b]? = _
      rw [heap_push_lt (by rw [hW4s]; omega), k1 b (by omega), <- hW1, heap_push_lt hb]
    . show (W4.alloc _).heap[_]? = _
      rw [heap_push_lt (by rw [hW4s]; omega), k1 _ (by omega), <- hW1, heap_push]
    . show (W4.alloc _).heap[_]? = _
      rw [heap_push_lt (by rw [hW4s]; omega), hW4k _ (by omega), <- hW3, heap_push_lt (by rw [s2]; omega), <- hW2, <- s1, heap_push]
    . show (W4.alloc _).heap[_]? = _
      rw [heap_push_lt (by rw [hW4s]; omega), hb2']
      rfl
    . show (W4.alloc _).heap[_]? = _
      rw [<- hW4s, heap_push]
      rfl
    . show W4.os = _
      rw [hA.os, <- hW3, <- hW2, <- hW1]; rfl
    . show W4.tape = _
      rw [hA.tape, <- hW3, <- hW2, <- hW1]; rfl
    . show W4.output = _
      rw [hA.output, <- hW3, <- hW2, <- hW1]; rfl
   exact h _ hst
 have := start W.drawn
 exact this
end Go.Proofs.Ytjcpjijihajopaa
namespace Go.Proofs.Ytjcpjijihajopaa
open Go.RowKit Go.Mt Go.Conc Go.Tt Go.Conc.Lib Go.ConcR.Gen
noncomputable def mainCx (Wg c n : Nat) (val : Nat -> Value) (Fin : Goroutine -> World -> Prop) (K : Pr) (St : Nat -> Prop) (I : Pr -> Terr -> World -> Prop) (base : List Frame) : Cx PpL :=
 { p := Try.prog, gs := gsF, fs := fsF, ty := wgl.tWg, Wg := Wg, A := pipe c n val, Fin := Fin, main := true, base := base, ds := .nil, K := K, St := St, I := I, pin := [(5, .pointer (some ⟨Wg, 0, none⟩))] }
abbrev shunG (Shun : Loc -> Prop) (Wg : Nat) : Loc -> Prop := λ l => Shun l \/ onB l Wg
abbrev finJ (Post : Value -> World -> Prop) (Shun : Loc -> Prop) (Wg : Nat) : Goroutine -> World -> Prop := λ g w' => J Try.prog Post (shunG Shun Wg) w'.heap.size g w'
noncomputable def ops9 : Array Oper := match rEM9 with | .region _ ops _ => ops | _ => #[]
theorem rEM9_eq : rEM9 = .region 9 ops9 false := rfl
abbrev oper9 : Oper := ⟨some 17, .call ⟨.value (.func 57), #[.tmp 5], #[86]⟩, 0, "l8_bills.go:77", #[], none⟩
theorem ops9_at : ops9[0]? = some oper9 := rfl
theorem ops9_range : List.range ops9.size = [0] := rfl
set_option maxRecDepth 100000 in
theorem wait_ent (Wg : Nat) : Frame.enter Try.prog 57 #[.pointer (some ⟨Wg, 0, none⟩)] .normal = (Conc.base wgl.wait).at ⟨#[.pointer (some ⟨Wg, 0, none⟩), undef, undef, undef, undef, undef, undef, undef, undef, undef, undef, undef, undef, undef, undef, undef, undef, undef, undef, undef, undef, undef, undef, undef, undef, undef, undef, undef, undef, undef, undef, undef, undef, undef, undef, undef, undef, undef, undef, undef, undef, undef, undef, undef, undef, undef, undef, undef, undef, undef, undef, undef, undef, undef, undef, undef, undef, undef, undef, undef, undef, undef, undef, undef, undef, undef, undef, undef, undef, undef, undef, undef, undef, undef, undef, undef, undef, undef, undef, undef, undef, undef, undef, undef], []⟩ [.code (body_wait wgl)] := by
 have h := Conc.enter_at (P := Try.prog) (f := wgl.wait) (fn := waitFn wgl) (c := body_wait wgl) #[.pointer (some ⟨Wg, 0, none⟩)] wgLib.f_wait rfl
 rw [h]
 have e : (waitFn wgl).ntmps = 84 := rfl
 rw [e]
 walk_nrm
set_option maxRecDepth 100000 in
theorem add_ent (Wg : Nat) : Frame.enter Try.prog 54 #[.pointer (some ⟨Wg, 0, none⟩), .int .i64 1] .normal = (Conc.base wgl.add).at ⟨#[.pointer (some ⟨Wg, 0, none⟩), .int .i64 1, undef, undef, undef, undef, undef, undef, undef, undef, undef, undef, undef, undef, undef, undef, undef, undef, undef, undef, undef, undef, undef, undef, undef, undef, undef, undef, undef, undef, undef, undef, undef, undef, undef, undef, undef, undef, undef, undef, undef, undef, undef, undef, undef, undef, undef, undef, undef, undef, undef, undef, undef, undef, undef, undef, undef, undef, undef, undef, undef, undef, undef, undef, undef, undef, undef, undef, undef, undef, undef, undef, undef, undef, undef, undef, undef, undef, undef, undef, undef, undef, undef, undef, undef, undef, undef, undef, undef, undef, undef, undef, undef, undef, undef, undef, undef, undef, undef, undef, undef, undef, undef, undef, undef, undef, undef, undef, undef, undef, undef, undef, undef, undef, undef, undef, undef], []⟩ [.code (body_add wgl)] := by
 have h := Conc.enter_at (P := Try.prog) (f := wgl.add) (fn := addFn wgl) (c := body_add wgl) #[.pointer (some ⟨Wg, 0, none⟩), .int .i64 1] wgLib.f_add rfl
 rw [h]
 have e : (addFn wgl).ntmps = 117 := rfl
 rw [e]
 walk_nrm
section
variable {Post : Value -> World -> Prop} {Shun : Loc -> Prop} {W0 : World} {St : Nat -> Prop} {Wg c n : Nat} {rs : List RecD} {K : Pr} {StM : Nat -> Prop} {IXX : Pr -> Terr -> World -> Prop} {I : Nat -> World -> Prop} {cf : Frame} {cs : List Frame}
set_option maxHeartbeats 4000000 in
set_option maxRecDepth 100000 in
theorem each_wait (hC : IOk (mainCx Wg c n (recVal rs) (finJ Post Shun Wg) K StM (withLive wgl.tWg Wg IXX) (cf :: cs))) (hX : IX wgl.tWg Wg IXX)
   (hcont : ∀ (R : Pr) (τ : Terr) (wn Wn : World), WRel (SF fsF) K R Try.prog.globals.size StM wn Wn -> Terra τ R StM -> IXX R τ Wn -> I n wn -> J Try.prog Post (shunG Shun Wg) Wn.heap.size (G (cf.finish (.tuple #[])) cs) Wn)
   (tmps : Array Value) (w : World) (hw : I n w) : BO (mainCx Wg c n (recVal rs) (finJ Post Shun Wg) K StM (withLive wgl.tWg Wg IXX) (cf :: cs)) .wt ⟨35, tmps, [.code rEM9], false⟩ w := by
 intro R W m' τ hr hm ht hi
 obtain ⟨fn', tmps', todo', ret'⟩ := m'
 obtain rfl := hm.fn
 obtain rfl := hm.todo
 obtain rfl := hm.ret
 have h5 : tmps'.getD 5 undef = .pointer (some ⟨Wg, 0, none⟩) := hm.pins (5, .pointer (some ⟨Wg, 0, none⟩)) (List.mem_singleton.2 rfl)
 rw [fx_at]
 rw [rEM9_eq]
 refine beh_silent rfl rfl (λ W₁ s => stepG_region) λ W₁ s => ?_
 rw [ops9_range]
 have hr1 : WRel (SF fsF) K R Try.prog.globals.size StM w W₁ := Cx.Rel.suf (C := mainCx Wg c n (recVal rs) (finJ Post Shun Wg) K StM (withLive wgl.tWg Wg IXX) (cf :: cs)) hr ht s
 have hi1 : withLive wgl.tWg Wg IXX R τ W₁ := hC.suf _ _ _ _ hi s
 let F : World -> Prop := λ W' => WRel (SF fsF) K R Try.prog.globals.size StM w W' /\ IXX R τ W'
 have kf : KeepF wgl.tWg Wg τ F := by
   refine ⟨λ W' W'' s hF => ⟨WRel.suf hF.1 ht (λ a b x => (hF.1.lt a b (.inr x)).2) s, hX.suf _ _ _ _ hF.2 s⟩, λ W' a v ha hF => ⟨?_, hX.cell _ _ _ _ _ hF.2 ha⟩⟩
   exact WRel.real hF.1 (λ x b hx => setCell_ne W' a v (by rw [ha]; exact hX.rel _ _ _ hF.2 x b hx)) (by rw [setCell_size]; exact Nat.le_refl _)
 show BehE Try.prog wgl.tWg Wg (pipe c n (recVal rs)) (finJ Post Shun Wg) true (.usr .wt) 0 τ (G ((Conc.base 35).at ⟨tmps', []⟩ [.inRegion ops9 [0]]) (cf :: cs)) W₁
 refine beh_silent rfl rfl (g' := G ((Conc.base wgl.wait).at ⟨#[.pointer (some ⟨Wg, 0, none⟩), undef, undef, undef, undef, undef, undef, undef, undef, undef, undef, undef, undef, undef, undef, undef, undef, undef, undef, undef, undef, undef, undef, undef, undef, undef, undef, undef, undef, undef, undef, undef, undef, undef, undef, undef, undef, undef, undef, undef, undef, undef, undef, undef, undef, undef, undef, undef, undef, undef, undef, undef, undef, undef, undef, undef, undef, undef, undef, undef, undef, undef, undef, undef, undef, undef, undef, undef, undef, undef, undef, undef, undef, undef, undef, undef, undef, undef, undef, undef, undef, undef, undef, undef], []⟩ [.code (body_wait wgl)]) ((Conc.base 35).at ⟨tmps', []⟩ [.inRegion ops9 [0]] :: cf :: cs)) (λ W₂ s2 => ?_) λ W₂ s2 => ?_
 . obtain ⟨x1, x2⟩ := exec_call (p := Try.prog) (o := oper9) rfl (ρ := (Go.Act.mk tmps' []).eval) (λ g => rfl) wgLib.f_wait rfl rfl W₂
   have hst := stepG_enter (main := true) (b := Conc.base 35) (a := ⟨tmps', []⟩) (rest := []) (cs := cf :: cs) (k := []) ops9_at rfl (by decide) x1
   rw [hst]
   unfold listed
   rw [x2, Conc.seen_none]
   simp only [List.map_toArray, List.map_cons, List.map_nil, Go.Act.eval]
   rw [h5, wait_ent]
 . have hF2 : F W₂ := kf.suf _ _ s2 ⟨hr1, hi1.1⟩
   have hJ : ∀ Wn, F Wn -> ∀ d, finJ Post Shun Wg (G ((Conc.base 35).at (Go.Act.put ⟨tmps', []⟩ ((ops9[0]?).bind (·.dst)) (.tuple #[])) [.inRegion ops9 []]) (cf :: cs)) (Wn.at d) := λ Wn hFn => by
     show ∀ d, J Try.prog Post (shunG Shun Wg) Wn.heap.size (G ((Conc.base 35).at (Go.Act.put ⟨tmps', []⟩ ((ops9[0]?).bind (·.dst)) (.tuple #[])) [.inRegion ops9 []]) (cf :: cs)) (Wn.at d)
     refine J.sil rfl (λ w => stepG_region_end) ?_
     refine J.sil rfl (λ w => stepG_end) ?_
     refine J.sil rfl (g' := G (cf.finish (.tuple #[])) cs) (λ w => stepG_leave (fn := Try.f35) (v := .tuple #[]) rfl rfl Try.func35 (results_none rfl _ _ _) (Conc.events_results_none rfl _ _)) ?_
     intro d
     exact hcont R τ w (Wn.at d) (WRel.at hFn.1 d) ht (hX.at_ _ _ _ d hFn.2) hw
   exact waitW (A := pipe c n (recVal rs)) (b₀ := Conc.base 35) (a₀ := ⟨tmps', []⟩) (ops₀ := ops9) (i₀ := 0) (rest₀ := []) (k₀ := []) (cs := cf :: cs) (Fin := finJ Post Shun Wg) (l := PpL.wt) (τ := τ) (Wg := Wg) wgLib rfl kf (λ n g w h => fin_goes n g w h) (λ Wn hFn _ _ => hJ Wn hFn) W₂ ⟨hF2, s2.live hi1.2⟩
set_option maxHeartbeats 4000000 in
set_option maxRecDepth 100000 in
theorem each_main {Fin : Goroutine -> World -> Prop} {IC : Pr -> Terr -> World -> Prop} {f : FuncId} {capt : Array Value} {gc gv : Nat} (hC : IOk (mainCx Wg c n (recVal rs) Fin K StM IC (cf :: cs))) (hK : K gc c) (hrs : rs.length = n) (E : EachI f capt rs I) (hf : gsF f = true)
   (hwait : ∀ tmps w, I n w -> BO (mainCx Wg c n (recVal rs) Fin K StM IC (cf :: cs)) .wt ⟨35, tmps, [.code rEM9], false⟩ w) {ops4 : Array Oper} {u0 u2 u3 u6 u7 u8 u9 u10 u11 u12 u13 u14 u15 u16 u17 : Value} {w : World} (hw : I 0 w) (hv : w.heap[gv]? = some (.cells #[.chan (some gc)] 76 (0, 1))) :
   BO (mainCx Wg c n (recVal rs) Fin K StM IC (cf :: cs)) (.rv 0) ⟨35, #[u0, .func (.func f) #[] capt, u2, u3, .pointer (some ⟨gv, 0, none⟩), .nilFunc, u6, u7, u8, u9, u10, u11, u12, u13, u14, u15, u16, u17], [.inRegion ops4 [], .code (.seq (.seq rEM5 (.block 0 (.loop loopEM))) rEM9)], false⟩ w := by
 let C := mainCx Wg c n (recVal rs) Fin K StM IC (cf :: cs)
 have F : Fit3 C.P C.fs := fitF
 refine BO.regEnd hC ?_
 refine BO.seq hC ?_
 refine BO.seq hC ?_
 generalize hk0 : (Item.code (.block 0 (.loop loopEM)) :: [Item.code rEM9]) = K0
 simp only [rEM5, bodyEM, Try.f35, Option.getD_some]
 refine BO.regs hC [0] rfl ?_
 refine BO.op (C := C) F hC (o := _) rfl rfl (by kernel_rfl) (by intro s hs; cases hs; show (10 : Nat) ∉ ([5] : List Nat); decide) (λ T => ⟨.chan (some gc), Tt.tp w T 0, .inl ?_, ?_⟩)
 . exact exec_load1 (a := ⟨gv, 0, none⟩) rfl rfl (Try.isAgg76 _) (blk_cell (w := Tt.tp w T 0) hv 0)
 refine BO.regEnd hC ?_
 subst hk0
 refine BO.block hC ?_
 refine BO.loop hC ?_
 exact each_main_loop C rfl rfl rfl rfl rfl hC hK hrs E hf hwait n 0 (by omega) _ _ _ _ _ _ _ _ _ _ _ _ _ _ _ (E.tape _ _ _ _ hw)
end
end Go.Proofs.Ytjcpjijihajopaa
namespace Go.Proofs.Ytjcpjijihajopaa
open Go.RowKit Go.Mt Go.Conc Go.Tt Go.Conc.Lib Go.ConcR.Gen
noncomputable def ops3 : Array Oper := match rEM3 with | .region _ ops _ => ops | _ => #[]
noncomputable def ops4 : Array Oper := match rEM4 with | .region _ ops _ => ops | _ => #[]
theorem rEM3_eq : rEM3 = .region 3 ops3 false := rfl
theorem rEM4_eq : rEM4 = .region 4 ops4 false := rfl
abbrev oper3 : Oper := ⟨some 8, .call ⟨.value (.func 54), #[.tmp 5, .const (.int .i64 1)], #[86, 3]⟩, 0, "l8_bills.go:66", #[], none⟩
abbrev oper40 : Oper := ⟨some 9, .makeFunc (.func 55) #[] #[.tmp 5, .tmp 4, .tmp 2], 1, "l8_bills.go:67", #[], none⟩
abbrev oper41 : Oper := ⟨none, .go ⟨.value (.tmp 9), #[], #[]⟩, 0, "l8_bills.go:67", #[{ on := 0, ground := Ground.data }], none⟩
theorem ops3_at : ops3[0]? = some oper3 := rfl
theorem ops4_0 : ops4[0]? = some oper40 := rfl
theorem ops4_1 : ops4[1]? = some oper41 := rfl
theorem ops3_range : List.range ops3.size = [0] := rfl
theorem ops4_range : List.range ops4.size = [0, 1] := rfl
structure F4 (R : Pr) (W0 W : World) (v : Value) (W' : World) : Prop where
 rel : ∀ a b, R a b -> W'.heap[b]? = W.heap[b]?
 b0 : W'.heap[W.heap.size]? = some (.cells #[v] 25)
 b1 : W'.heap[W.heap.size + 1]? = some (.chan 0 #[] false 0 0 false)
 b2 : W'.heap[W.heap.size + 2]? = some (.cells #[.chan (some (W.heap.size + 1))] 76)
 os : W'.os = W.os
 tape : W'.tape = W.tape
 output : W'.output = W.output
 old : ∀ b, b < W0.heap.size -> W'.heap[b]? = W0.heap[b]?
 size : W.heap.size + 4 <= W'.heap.size
theorem chw_ghost {w : World} {A : Option Addr} {src : Option Blk} {n cap : Nat} {rs : List RecD} (hs : srcOk w A src) (h : Slc w 0 w.heap.size 7 A n cap (recs rs)) :
   ChW w.heap.size (w.heap.size + 1) (numC w src) (sliceC w src) n cap rs (ghostC w src 76 25 n cap) := by
 have e1 : (w.alloc waste).heap.size = w.heap.size + 1 := size_push _ _
 have e2 : ((w.alloc waste).alloc (.cells #[.chan (some w.heap.size)] 76 (0, 1))).heap.size = w.heap.size + 2 := by rw [size_push, e1]
 cases src with
 | none =>
   obtain rfl : A = none := hs
   have hn : n = 0 := by
     rcases Nat.eq_zero_or_pos n with h0 | h0
     . exact h0
     . obtain ⟨_, _, e, _⟩ := h.at_ h0; cases e
   refine ⟨?_, ?_, h.len, h.le, h.cap, λ h0 => by omega⟩
   . show (World.alloc _ _).heap[_]? = _
     rw [heap_push_lt (by rw [e2]; omega), <- e1, heap_push]
   . show (World.alloc _ _).heap[_]? = _
     show _[w.heap.size + 2]? = _
     rw [<- e2, heap_push]; rfl
 | some b =>
   obtain ⟨rfl, hb, _⟩ := hs
   have e3 : (((w.alloc waste).alloc (.cells #[.chan (some w.heap.size)] 76 (0, 1))).alloc (.cells b.cs b.T (0, max b.cs.size b.fz.2))).heap.size = w.heap.size + 3 := by rw [size_push, e2]
   have hb2 : (ghostC w (some b) 76 25 n cap).heap[w.heap.size + 2]? = some (.cells b.cs b.T (0, max b.cs.size b.fz.2)) := by
     show (World.alloc _ _).heap[_]? = _
     rw [heap_push_lt (by rw [e3]; omega), <- e2, heap_push]
   refine ⟨?_, ?_, h.len, h.le, h.cap, λ h0 => ⟨_, _, rfl, Nat.zero_le _, ?_, ?_, λ j v hv => ?_⟩⟩
   . show (World.alloc _ _).heap[_]? = _
     rw [heap_push_lt (by rw [e3]; omega), heap_push_lt (by rw [e2]; omega), <- e1, heap_push]
   . show (World.alloc _ _).heap[w.heap.size + 3]? = _
     rw [<- e3, heap_push]; rfl
   . show w.heap.size + 2 < (World.alloc _ _).heap.size
     rw [size_push, e3]; omega
   . show w.heap.size + 2 < (World.alloc _ _).heap.size
     rw [size_push, e3]; omega
   . obtain ⟨b1, off, e, _, _, _, h4⟩ := h.at_ h0
     simp only [Option.some.injEq, Addr.mk.injEq] at e
     obtain ⟨rfl, rfl, _⟩ := e
     have := h4 j v hv
     rw [blk_cell hb] at this
     rw [blk_cell hb2]
     exact this
section
variable {Post : Value -> World -> Prop} {Shun : Loc -> Prop} {W0 : World} {St : Nat -> Prop} {n cap : Nat} {rs : List RecD} {K R : Pr} {I : Nat -> World -> Prop} {cf : Frame} {cs : List Frame} {f : FuncId} {capt : Array Value} {A A' : Option Addr} {vf' : Value} {w W W4 : World} {src : Option Blk}
def tau0 (R : Pr) (St : Nat -> Prop) (src : Option Blk) (W0 W : World) : Terr := ⟨λ b => (∃ a, R a b /\ ¬ StF St src a) \/ b = W.heap.size \/ b = W.heap.size + 1 \/ b = W.heap.size + 2, λ b => b < W0.heap.size \/ ∃ a, R a b /\ StF St src a, λ _ => False⟩
def tauM (R : Pr) (St : Nat -> Prop) (src : Option Blk) (W0 W : World) : Terr := ⟨λ b => ∃ a, R a b /\ ¬ StF St src a, λ b => b < W0.heap.size \/ (∃ a, R a b /\ StF St src a) \/ b = W.heap.size + 2, λ _ => False⟩
def tauC (R : Pr) (St : Nat -> Prop) (src : Option Blk) (W0 W : World) : Terr := ⟨λ _ => False, λ b => b < W0.heap.size \/ (∃ a, R a b /\ StF St src a) \/ b = W.heap.size \/ b = W.heap.size + 2, λ b => b = W.heap.size + 1⟩
theorem f4_keep {v : Value} (hlt : ∀ a b, R a b -> b < W.heap.size) (hW0 : W0.heap.size <= W.heap.size) : KeepF wgl.tWg (W.heap.size + 3) (tau0 R St src W0 W) (F4 R W0 W v) := by
 refine ⟨λ W' W'' s h => ?_, λ W' a v ha h => ?_⟩
 . refine ⟨λ a b x => (s.keep b ?_).trans (h.rel a b x), (s.keep _ (.inl (.inr (.inl rfl)))).trans h.b0, (s.keep _ (.inl (.inr (.inr (.inl rfl))))).trans h.b1, (s.keep _ (.inl (.inr (.inr (.inr rfl))))).trans h.b2, s.os.trans h.os, s.tape.trans h.tape, s.output.trans h.output, λ b hb => (s.keep b (.inr (.inl hb))).trans (h.old b hb), Nat.le_trans h.size s.size⟩
   by_cases e : StF St src a
   . exact .inr (.inr ⟨a, x, e⟩)
   . exact .inl (.inl ⟨a, x, e⟩)
 . have hA1 := aside_setCell W' a v
   refine ⟨λ x b hx => (setCell_ne W' a v (by have := hlt x b hx; omega)).trans (h.rel x b hx), (setCell_ne W' a v (by omega)).trans h.b0, (setCell_ne W' a v (by omega)).trans h.b1, (setCell_ne W' a v (by omega)).trans h.b2, hA1.os.trans h.os, hA1.tape.trans h.tape, hA1.output.trans h.output, λ b hb => (setCell_ne W' a v (by omega)).trans (h.old b hb), by rw [setCell_size]; exact h.size⟩
abbrev fzB (R : Pr) (St : Nat -> Prop) (src : Option Blk) (b : Nat) : Prop := ∃ a, R a b /\ StF St src a
set_option maxHeartbeats 4000000 in
set_option maxRecDepth 100000 in
theorem go_main (hw : WRel (SF fsF) K R Try.prog.globals.size St w W) (hsh : Sh W0.heap.size Shun R W) (hk : Kp W0 R St W) (hs : srcOk w A src) (hslc : Slc w 0 w.heap.size 7 A n cap (recs rs))
   (hA : OaR R A A') (hvf : VR (SF fsF) K R (.func (.func f) #[] capt) vf') (E : EachI f capt rs I) (hf : gsF f = true) (hI0 : I 0 (ghostM w src 76))
   (hcont : ∀ (K' R' : Pr) (wn Wn : World), K.le K' -> R.le R' -> WRel (SF fsF) K' R' Try.prog.globals.size St (thaw wn src) Wn -> I n wn -> Sh W0.heap.size (shunG Shun (W.heap.size + 3)) R' Wn -> Kp W0 R' St Wn -> J Try.prog Post (shunG Shun (W.heap.size + 3)) Wn.heap.size (G (cf.finish (.tuple #[])) cs) Wn)
   {W7 : World} (h7 : F4 R W0 W (.slice A' n cap) W7) (hl7 : WgLive wgl.tWg (W.heap.size + 3) W7) :
   BehE Try.prog wgl.tWg (W.heap.size + 3) (pipe (W.heap.size + 1) n (recVal rs)) (finJ Post Shun (W.heap.size + 3)) true (.usr (.rv 0)) 0 (tauM R St src W0 W) (G ((Conc.base 35).at ⟨#[.slice A' n cap, vf', .pointer (some ⟨W.heap.size, 0, none⟩), undef, .pointer (some ⟨W.heap.size + 2, 0, none⟩), .pointer (some ⟨W.heap.size + 3, 0, none⟩), undef, .chan (some (W.heap.size + 1)), .tuple #[], .func (.func 55) #[] #[.pointer (some ⟨W.heap.size + 3, 0, none⟩), .pointer (some ⟨W.heap.size + 2, 0, none⟩), .pointer (some ⟨W.heap.size, 0, none⟩)], undef, undef, undef, undef, undef, undef, undef, undef], []⟩ [.inRegion ops4 [], .code (.seq (.seq rEM5 (.block 0 (.loop loopEM))) rEM9)]) (cf :: cs)) W7 := by
 have hrs : rs.length = n := hslc.recLen
 have hlt : ∀ a b, R a b -> b < W.heap.size := λ a b x => (hw.lt a b (.inl x)).2
 have hsR : ∀ b, src = some b -> ∃ b', R b.rb b' := λ b e => by
   subst e
   obtain ⟨rfl, _, _⟩ := hs
   cases hA with
   | some x => cases x with | mk x => exact ⟨_, x⟩
 have hW0 : W0.heap.size <= W.heap.size := hk.size
 let Fz : Nat -> Prop := fzB R St src
 let SS : Nat -> Prop := (tauM R St src W0 W).still
 have hSS : ∀ b, b < W0.heap.size -> SS b := λ b hb => .inl hb
 have hF : ∀ b, Fz b -> SS b := λ b hb => .inr (.inl hb)
 have hlow : W0.heap.size <= W.heap.size + 3 := by omega
 have hrel := main_rel hw hs hsR (N1 := W.heap.size + 1) (N2 := W.heap.size + 2) (Tc := 76) (W4 := W7) (by omega) (by omega) (by omega) h7.rel (by have := h7.size; omega) h7.b2
 let C : Cx PpL := mainCx (W.heap.size + 3) (W.heap.size + 1) n (recVal rs) (finJ Post Shun (W.heap.size + 3)) (K.add w.heap.size (W.heap.size + 1)) (stM St src w) (withLive wgl.tWg (W.heap.size + 3) (IMX W0 St (shunG Shun (W.heap.size + 3)) (W.heap.size + 3) SS R Fz W)) (cf :: cs)
 have hC : IOk C := imx_ok (C := C) rfl (λ a x => .inl (.inl x)) hSS hF hlow
 have hX : IX wgl.tWg (W.heap.size + 3) (IMX W0 St (shunG Shun (W.heap.size + 3)) (W.heap.size + 3) SS R Fz W) := imx_ix hSS hF hlow
 have hwait : ∀ tmps w', I n w' -> BO C .wt ⟨35, tmps, [.code rEM9], false⟩ w' := λ tmps w' hw' => by
   refine each_wait (K := K.add w.heap.size (W.heap.size + 1)) (StM := stM St src w) hC hX (λ R' τ wn Wn hr ht hi hin => ?_) tmps w' hw'
   refine hcont (K.add w.heap.size (W.heap.size + 1)) R' wn Wn (Pr.le_add _ _ _) hi.le ?_ hin hi.im.sh hi.im.kp
   refine thaw_rel hw hs hi.le (WRel.subSt hr λ a x => .inl x) (λ b b' e hb => ?_) hsR
   exact (hi.fz b' ⟨b.rb, hb, .inr ⟨b, e, rfl⟩⟩).2.1
 have hv : (ghostM w src 76).heap[w.heap.size + 1]? = some (.cells #[.chan (some w.heap.size)] 76 (0, 1)) := by
   have e1 : ((frz w src).alloc waste).heap.size = w.heap.size + 1 := by rw [size_push, frz_size]
   unfold ghostM
   rw [<- e1, heap_push]
 have hB := each_main (ops4 := ops4) (u0 := .slice A n cap) (u2 := .nilFunc) (u3 := undef) (u6 := undef) (u7 := .chan (some w.heap.size)) (u8 := .tuple #[]) (u9 := .nilFunc) (u10 := undef) (u11 := undef) (u12 := undef) (u13 := undef) (u14 := undef) (u15 := undef) (u16 := undef) (u17 := undef) hC (.inr ⟨rfl, rfl⟩) hrs E hf hwait hI0 hv
 have hRle : R.le (R.add (w.heap.size + 1) (W.heap.size + 2)) := Pr.le_add _ _ _
 have hKle : K.le (K.add w.heap.size (W.heap.size + 1)) := Pr.le_add _ _ _
 refine hB (R.add (w.heap.size + 1) (W.heap.size + 2)) W7 ⟨35, #[.slice A' n cap, vf', .pointer (some ⟨W.heap.size, 0, none⟩), undef, .pointer (some ⟨W.heap.size + 2, 0, none⟩), .pointer (some ⟨W.heap.size + 3, 0, none⟩), undef, .chan (some (W.heap.size + 1)), .tuple #[], .func (.func 55) #[] #[.pointer (some ⟨W.heap.size + 3, 0, none⟩), .pointer (some ⟨W.heap.size + 2, 0, none⟩), .pointer (some ⟨W.heap.size, 0, none⟩)], undef, undef, undef, undef, undef, undef, undef, undef], [.inRegion ops4 [], .code (.seq (.seq rEM5 (.block 0 (.loop loopEM))) rEM9)], false⟩ (tauM R St src W0 W) hrel ⟨rfl, rfl, rfl, ?_, λ x hx => ?_⟩ ?_ ⟨⟨⟨⟨h7.os.trans hk.os, h7.tape.trans hk.tape, h7.output.trans hk.output, by have := h7.size; omega, h7.old, ?_⟩, ⟨?_, ?_, ?_⟩, rfl, by have := h7.size; omega, ?_, ?_⟩, hRle, ?_⟩, hl7⟩
 . have v0 : VR (SF fsF) (K.add w.heap.size (W.heap.size + 1)) (R.add (w.heap.size + 1) (W.heap.size + 2)) (.slice A n cap) (.slice A' n cap) := .slice (hA.mono hRle)
   have v1 := (hvf.mono hRle).monoK hKle
   have hj : ∀ x, Tt.Hid x -> VR (SF fsF) (K.add w.heap.size (W.heap.size + 1)) (R.add (w.heap.size + 1) (W.heap.size + 2)) .nilFunc x := λ x h => .junk h
   have vu := vr_undef (S := SF fsF) (K := K.add w.heap.size (W.heap.size + 1)) (R := R.add (w.heap.size + 1) (W.heap.size + 2))
   exact (((((((((((((((((ArR.empty.push v0).push v1).push (hj _ (by exact True.intro))).push vu).push (.pointer (.some (.mk (.inr ⟨rfl, rfl⟩))))).push (hj _ (by exact True.intro))).push vu).push (.chan (.some (.inr (.inr ⟨rfl, rfl⟩))))).push (.tuple rfl λ i v v' h => by simp at h)).push (hj _ (by exact True.intro))).push vu).push vu).push vu).push vu).push vu).push vu).push vu).push vu
 . obtain rfl := List.mem_singleton.1 hx
   rfl
 . rintro a b (x | ⟨rfl, rfl⟩)
   . refine ⟨λ z => ?_, λ z => ⟨a, x, λ y => z (.inl y)⟩⟩
     rcases z with z | z
     . exact .inr (.inl ⟨a, x, z⟩)
     . have := (hw.lt a b (.inl x)).1; omega
   . exact ⟨λ _ => .inr (.inr rfl), λ z => absurd (.inr rfl) z⟩
 . rintro a b (x | ⟨rfl, rfl⟩) hb
   . exact hk.old a b x hb
   . omega
 . rintro l b hl hb (hx | hx)
   . exact hsh.old l b hl hb hx
   . have := onB_inj hl hx; omega
 . rintro a b (x | ⟨rfl, rfl⟩) l hl (hx | hx)
   . exact hsh.rel a b x l hl hx
   . have := onB_inj hl hx; have := hlt a b x; omega
   . exact hsh.new l _ hl (by omega) hx
   . have := onB_inj hl hx; omega
 . rintro l b hl hb (hx | hx)
   . exact hsh.new l b hl (by have := h7.size; omega) hx
   . have := onB_inj hl hx; have := h7.size; omega
 . rintro b ⟨a, x, _⟩
   have := hlt a b x; omega
 . rintro a b (x | ⟨rfl, rfl⟩)
   . have := hlt a b x; omega
   . omega
 . rintro b ⟨a, x, y⟩
   have := hlt a b x
   refine ⟨by have := h7.size; omega, h7.rel a b x, ?_, by omega⟩
   rintro ⟨a', x', y'⟩
   obtain rfl := hw.inj' a a' b (.inl x) (.inl x')
   exact y' y
set_option maxHeartbeats 4000000 in
set_option maxRecDepth 100000 in
theorem go_child {Fin : Goroutine -> World -> Prop} (hw : WRel (SF fsF) K R Try.prog.globals.size St w W) (hW0 : W0.heap.size <= W.heap.size) (hs : srcOk w A src) (hlo : ∀ b, src = some b -> Try.prog.globals.size <= b.rb) (hslc : Slc w 0 w.heap.size 7 A n cap (recs rs)) (hn : n <= 1048576)
   (hA : OaR R A A') {W7 : World} (h7 : F4 R W0 W (.slice A' n cap) W7) (hl7 : WgLive wgl.tWg (W.heap.size + 3) W7) :
   BehE Try.prog wgl.tWg (W.heap.size + 3) (pipe (W.heap.size + 1) n (recVal rs)) Fin false (.usr (.sd 0)) 0 (tauC R St src W0 W) (born Try.prog { target := .fn (.func 55) #[.pointer (some ⟨W.heap.size + 3, 0, none⟩), .pointer (some ⟨W.heap.size + 2, 0, none⟩), .pointer (some ⟨W.heap.size, 0, none⟩)], args := #[] }) W7 := by
 have hrs : rs.length = n := hslc.recLen
 have hlt : ∀ a b, R a b -> b < W.heap.size := λ a b x => (hw.lt a b (.inl x)).2
 obtain ⟨b', hR⟩ : ∃ b', ∀ b, src = some b -> R b.rb b' := by
   cases src with
   | none => exact ⟨0, λ b e => by cases e⟩
   | some b =>
     obtain ⟨rfl, _, _⟩ := hs
     cases hA with
     | some x => cases x with | mk x => exact ⟨_, λ b e => by cases e; exact x⟩
 have hntm : (Try.f55).ntmps = 15 := rfl
 refine beh_silent rfl rfl (λ W₁ s => born_stepG (c := bodyEC) Try.func55 (by decide) rfl W₁) λ W₁ s => ?_
 obtain ⟨St', hrel, hst⟩ := child_rel (W4 := W7) (n := n) (cap := cap) (Tc := 76) (Ts := 25) hw hs hR hlo hA rfl rfl rfl h7.rel (by have := h7.size; omega) h7.b2 h7.b0
 have ht : Terra (tauC R St src W0 W) (relC w src b' W.heap.size (W.heap.size + 2)) St' := λ a b x => by
   refine ⟨λ _ => ?_, λ z => absurd (hst a b x) z⟩
   cases src with
   | none =>
     rcases x with (x | ⟨_, rfl⟩) | ⟨_, rfl⟩
     . exact x.elim
     . exact .inr (.inr (.inr rfl))
     . exact .inr (.inr (.inl rfl))
   | some b0 =>
     rcases x with ((x | ⟨_, rfl⟩) | ⟨_, rfl⟩) | ⟨_, rfl⟩
     . exact x.elim
     . exact .inr (.inr (.inr rfl))
     . exact .inr (.inl ⟨b0.rb, hR b0 rfl, .inr ⟨b0, rfl, rfl⟩⟩)
     . exact .inr (.inr (.inl rfl))
 have hB := each_child (Wg := W.heap.size + 3) (c := W.heap.size + 1) (Fin := Fin) (K := P0.add w.heap.size (W.heap.size + 1)) (St := St') (.inr ⟨rfl, rfl⟩) hrs hn (chw_ghost hs hslc)
 have hrel1 := Cx.Rel.suf (C := childCx (W.heap.size + 3) (W.heap.size + 1) n (recVal rs) Fin (P0.add w.heap.size (W.heap.size + 1)) St') hrel ht s
 have hgv : VR (SF fsF) (P0.add w.heap.size (W.heap.size + 1)) (relC w src b' W.heap.size (W.heap.size + 2)) (.pointer (some ⟨w.heap.size + 1, 0, none⟩)) (.pointer (some ⟨W.heap.size + 2, 0, none⟩)) := by
   refine .pointer (.some (.mk ?_))
   cases src with
   | none => exact .inl (.inr ⟨rfl, rfl⟩)
   | some b => exact .inl (.inl (.inr ⟨rfl, rfl⟩))
 have hgr : VR (SF fsF) (P0.add w.heap.size (W.heap.size + 1)) (relC w src b' W.heap.size (W.heap.size + 2)) (.pointer (some ⟨numC w src, 0, none⟩)) (.pointer (some ⟨W.heap.size, 0, none⟩)) := by
   refine .pointer (.some (.mk ?_))
   cases src with
   | none => exact .inr ⟨rfl, rfl⟩
   | some b => exact .inr ⟨rfl, rfl⟩
 have hj : ∀ x, Tt.Hid x -> VR (SF fsF) (P0.add w.heap.size (W.heap.size + 1)) (relC w src b' W.heap.size (W.heap.size + 2)) .nilFunc x := λ x h => .junk h
 have vu := vr_undef (S := SF fsF) (K := P0.add w.heap.size (W.heap.size + 1)) (R := relC w src b' W.heap.size (W.heap.size + 2))
 have hC15 : (#[] ++ #[.pointer (some ⟨W.heap.size + 3, 0, none⟩), .pointer (some ⟨W.heap.size + 2, 0, none⟩), .pointer (some ⟨W.heap.size, 0, none⟩)]) ++ Array.replicate ((Try.f55).ntmps - (#[] ++ #[.pointer (some ⟨W.heap.size + 3, 0, none⟩), .pointer (some ⟨W.heap.size + 2, 0, none⟩), .pointer (some ⟨W.heap.size, 0, none⟩)] : Array Value).size) undef
     = (#[.pointer (some ⟨W.heap.size + 3, 0, none⟩), .pointer (some ⟨W.heap.size + 2, 0, none⟩), .pointer (some ⟨W.heap.size, 0, none⟩), undef, undef, undef, undef, undef, undef, undef, undef, undef, undef, undef, undef] : Array Value) := by rw [hntm]; rfl
 rw [hC15]
 have hlive1 := s.live hl7
 refine hB (relC w src b' W.heap.size (W.heap.size + 2)) W₁ ⟨55, #[.pointer (some ⟨W.heap.size + 3, 0, none⟩), .pointer (some ⟨W.heap.size + 2, 0, none⟩), .pointer (some ⟨W.heap.size, 0, none⟩), undef, undef, undef, undef, undef, undef, undef, undef, undef, undef, undef, undef], [.code bodyEC], false⟩ (tauC R St src W0 W) hrel1 ⟨rfl, rfl, rfl, ?_, λ x hx => ?_⟩ ht ⟨rfl, λ x => x.elim, by have := s.size; have := h7.size; omega, hlive1⟩
 . exact ((((((((((((((ArR.empty.push (hj _ (by exact True.intro))).push hgv).push hgr).push vu).push vu).push vu).push vu).push vu).push vu).push vu).push vu).push vu).push vu).push vu).push vu
 . obtain rfl := List.mem_singleton.1 hx
   rfl
end
end Go.Proofs.Ytjcpjijihajopaa
namespace Go.Proofs.Ytjcpjijihajopaa
open Go.RowKit Go.Mt Go.Conc Go.Tt Go.Conc.Lib Go.ConcR.Gen
section
variable {Post : Value -> World -> Prop} {Shun : Loc -> Prop} {W0 : World} {St : Nat -> Prop} {n cap : Nat} {rs : List RecD} {K R : Pr} {I : Nat -> World -> Prop} {cf : Frame} {cs : List Frame} {f : FuncId} {capt : Array Value} {A A' : Option Addr} {vf' : Value} {w W W4 : World} {src : Option Blk}
set_option maxHeartbeats 8000000 in
set_option maxRecDepth 100000 in
theorem each_phase (hw : WRel (SF fsF) K R Try.prog.globals.size St w W) (hsh : Sh W0.heap.size Shun R W) (hk : Kp W0 R St W) (hs : srcOk w A src) (hlo : ∀ b, src = some b -> Try.prog.globals.size <= b.rb) (hslc : Slc w 0 w.heap.size 7 A n cap (recs rs)) (hn : n <= 1048576)
   (hA : OaR R A A') (hvf : VR (SF fsF) K R (.func (.func f) #[] capt) vf') (hst : St4 W W4 (.slice A' n cap)) (E : EachI f capt rs I) (hf : gsF f = true) (hI0 : I 0 (ghostM w src 76))
   (hcont : ∀ (K' R' : Pr) (wn Wn : World), K.le K' -> R.le R' -> WRel (SF fsF) K' R' Try.prog.globals.size St (thaw wn src) Wn -> I n wn -> Sh W0.heap.size (shunG Shun (W.heap.size + 3)) R' Wn -> Kp W0 R' St Wn -> J Try.prog Post (shunG Shun (W.heap.size + 3)) Wn.heap.size (G (cf.finish (.tuple #[])) cs) Wn) :
   J Try.prog Post Shun (W.heap.size + 3) (G ((Conc.base 35).at ⟨#[.slice A' n cap, vf', .pointer (some ⟨W.heap.size, 0, none⟩), undef, .pointer (some ⟨W.heap.size + 2, 0, none⟩), .pointer (some ⟨W.heap.size + 3, 0, none⟩), undef, .chan (some (W.heap.size + 1)), undef, undef, undef, undef, undef, undef, undef, undef, undef, undef], []⟩ [.code rEM3, .code (.seq rEM4 (.seq (.seq rEM5 (.block 0 (.loop loopEM))) rEM9))]) (cf :: cs)) W4 := by
 have hrs : rs.length = n := hslc.recLen
 have hlt : ∀ a b, R a b -> b < W.heap.size := λ a b x => (hw.lt a b (.inl x)).2
 have hltK : ∀ a b, (R.or K) a b -> b < W.heap.size := λ a b x => (hw.lt a b x).2
 have hsR : ∀ b, src = some b -> ∃ b', R b.rb b' := λ b e => by
   subst e
   obtain ⟨rfl, _, _⟩ := hs
   cases hA with
   | some x => cases x with | mk x => exact ⟨_, x⟩
 have hW0 : W0.heap.size <= W.heap.size := hk.size
 have hstill : ∀ b, (∃ a, R a b /\ ¬ StF St src a) -> W0.heap.size <= b := λ b ⟨a, h1, h2⟩ => by
   rcases Nat.lt_or_ge b W0.heap.size with h | h
   . exact absurd (.inl (hk.old a b h1 h)) h2
   . exact h
 refine J.phase (pipe_ok (W.heap.size + 1) n (recVal rs)) (ty := wgl.tWg) (Wg := W.heap.size + 3) (l := .m0) (τ := tau0 R St src W0 W) ?hb hst.b3 ⟨Nat.le_refl _, by rw [hst.size]; omega⟩ ?bnd rfl (.a .m0 (.inl rfl) rfl λ i hi => by simp [hi])
 case bnd =>
   rintro b ((⟨a, h1, h2⟩ | rfl | rfl | rfl) | (h | ⟨a, h1, h2⟩) | h)
   . have := hlt a b h1
     exact ⟨by rw [hst.size]; omega, by omega, hsh.rel a b h1⟩
   . exact ⟨by rw [hst.size]; omega, by omega, λ l hl => hsh.new l _ hl (by omega)⟩
   . exact ⟨by rw [hst.size]; omega, by omega, λ l hl => hsh.new l _ hl (by omega)⟩
   . exact ⟨by rw [hst.size]; omega, by omega, λ l hl => hsh.new l _ hl (by omega)⟩
   . exact ⟨by rw [hst.size]; omega, by omega, λ l hl => hsh.old l b hl h⟩
   . have := hlt a b h1
     exact ⟨by rw [hst.size]; omega, by omega, hsh.rel a b h1⟩
   . exact h.elim
 case hb =>
   have hF0 : F4 R W0 W (.slice A' n cap) W4 := ⟨λ a b x => hst.keep b (hlt a b x), hst.b0, hst.b1, hst.b2, hst.os, hst.tape, hst.output, λ b hb => (hst.keep b (by omega)).trans (hk.block b hb), by rw [hst.size]; exact Nat.le_refl _⟩
   have kf := f4_keep (R := R) (St := St) (src := src) (v := .slice A' n cap) hlt hW0
   have hgo : ∀ W5, F4 R W0 W (.slice A' n cap) W5 -> WgLive wgl.tWg (W.heap.size + 3) W5 -> BehE Try.prog wgl.tWg (W.heap.size + 3) (pipe (W.heap.size + 1) n (recVal rs)) (finJ Post Shun (W.heap.size + 3)) true (.usr .m1) 0 (tau0 R St src W0 W) (G ((Conc.base 35).at ⟨#[.slice A' n cap, vf', .pointer (some ⟨W.heap.size, 0, none⟩), undef, .pointer (some ⟨W.heap.size + 2, 0, none⟩), .pointer (some ⟨W.heap.size + 3, 0, none⟩), undef, .chan (some (W.heap.size + 1)), .tuple #[], undef, undef, undef, undef, undef, undef, undef, undef, undef], []⟩ [.inRegion ops3 [], .code (.seq rEM4 (.seq (.seq rEM5 (.block 0 (.loop loopEM))) rEM9))]) (cf :: cs)) W5 := by
     intro W5 h5 hl5
     have kp := λ W' W'' (st : Suf wgl.tWg (W.heap.size + 3) (tau0 R St src W0 W) W' W'') (x : F4 R W0 W (.slice A' n cap) W' /\ WgLive wgl.tWg (W.heap.size + 3) W') => (⟨kf.suf _ _ st x.1, st.live x.2⟩ : F4 R W0 W (.slice A' n cap) W'' /\ WgLive wgl.tWg (W.heap.size + 3) W'')
     refine beh_silent rfl rfl (λ W₁ s => stepG_region_end) λ W₁ s1 => ?_
     refine beh_silent rfl rfl (λ W₁ s => stepG_seq) λ W₂ s2 => ?_
     refine beh_silent rfl rfl (λ W₁ s => by rw [rEM4_eq]; exact stepG_region) λ W₃ s3 => ?_
     rw [ops4_range]
     have h3 := kp _ _ s3 (kp _ _ s2 (kp _ _ s1 ⟨h5, hl5⟩))
     refine beh_silent rfl rfl (g' := G ((Conc.base 35).at ⟨#[.slice A' n cap, vf', .pointer (some ⟨W.heap.size, 0, none⟩), undef, .pointer (some ⟨W.heap.size + 2, 0, none⟩), .pointer (some ⟨W.heap.size + 3, 0, none⟩), undef, .chan (some (W.heap.size + 1)), .tuple #[], .func (.func 55) #[] #[.pointer (some ⟨W.heap.size + 3, 0, none⟩), .pointer (some ⟨W.heap.size + 2, 0, none⟩), .pointer (some ⟨W.heap.size, 0, none⟩)], undef, undef, undef, undef, undef, undef, undef, undef], []⟩ [.inRegion ops4 [1], .code (.seq (.seq rEM5 (.block 0 (.loop loopEM))) rEM9)]) (cf :: cs)) (λ W₄ s4 => ?_) λ W₄ s4 => ?_
     . have x1 : (execOp (Go.Act.mk #[.slice A' n cap, vf', .pointer (some ⟨W.heap.size, 0, none⟩), undef, .pointer (some ⟨W.heap.size + 2, 0, none⟩), .pointer (some ⟨W.heap.size + 3, 0, none⟩), undef, .chan (some (W.heap.size + 1)), .tuple #[], undef, undef, undef, undef, undef, undef, undef, undef, undef] []).eval oper40).run Try.prog W₄ = .ok (.value (.func (.func 55) #[] #[.pointer (some ⟨W.heap.size + 3, 0, none⟩), .pointer (some ⟨W.heap.size + 2, 0, none⟩), .pointer (some ⟨W.heap.size, 0, none⟩)])) W₄ := by simp [execOp, go_sem, Go.Act.eval]
       have x2 : (execOp (Go.Act.mk #[.slice A' n cap, vf', .pointer (some ⟨W.heap.size, 0, none⟩), undef, .pointer (some ⟨W.heap.size + 2, 0, none⟩), .pointer (some ⟨W.heap.size + 3, 0, none⟩), undef, .chan (some (W.heap.size + 1)), .tuple #[], undef, undef, undef, undef, undef, undef, undef, undef, undef] []).eval oper40).events Try.prog W₄ #[] = #[] := by simp [execOp, go_sem, Go.Act.eval]
       have hstp := stepG_value (main := true) (b := Conc.base 35) (a := ⟨#[.slice A' n cap, vf', .pointer (some ⟨W.heap.size, 0, none⟩), undef, .pointer (some ⟨W.heap.size + 2, 0, none⟩), .pointer (some ⟨W.heap.size + 3, 0, none⟩), undef, .chan (some (W.heap.size + 1)), .tuple #[], undef, undef, undef, undef, undef, undef, undef, undef, undef], []⟩) (rest := [1]) (cs := cf :: cs) (k := [.code (.seq (.seq rEM5 (.block 0 (.loop loopEM))) rEM9)]) ops4_0 rfl (by decide) x1
       rw [hstp]
       unfold listed
       rw [x2, Conc.seen_none]
       rfl
     refine BehE.usr rfl ?_
     unfold AtUsr
     show (_ : Nat) = 0 /\ _
     refine ⟨rfl, λ W₇ s7 => ?_⟩
     have h7 := kp _ _ s7 (kp _ _ s4 h3)
     have hm := go_main hw hsh hk hs hslc hA hvf E hf hI0 hcont h7.1 h7.2
     have hc := go_child (Fin := finJ Post Shun (W.heap.size + 3)) (St := St) hw hW0 hs hlo hslc hn hA h7.1 h7.2
     refine ⟨_, _, tauM R St src W0 W, tauC R St src W0 W, ?_, rfl, rfl, ?_, ?_, ?_, ?_, ?_, ?_, hm, hc⟩
     . have x1 : (execOp (Go.Act.mk #[.slice A' n cap, vf', .pointer (some ⟨W.heap.size, 0, none⟩), undef, .pointer (some ⟨W.heap.size + 2, 0, none⟩), .pointer (some ⟨W.heap.size + 3, 0, none⟩), undef, .chan (some (W.heap.size + 1)), .tuple #[], .func (.func 55) #[] #[.pointer (some ⟨W.heap.size + 3, 0, none⟩), .pointer (some ⟨W.heap.size + 2, 0, none⟩), .pointer (some ⟨W.heap.size, 0, none⟩)], undef, undef, undef, undef, undef, undef, undef, undef] []).eval oper41).run Try.prog W₇ = .ok (.spawn { target := .fn (.func 55) #[.pointer (some ⟨W.heap.size + 3, 0, none⟩), .pointer (some ⟨W.heap.size + 2, 0, none⟩), .pointer (some ⟨W.heap.size, 0, none⟩)], args := #[] }) W₇ := by simp [execOp, go_sem, Go.Act.eval, resolve, Deferred.ofValue]
       have x2 : (execOp (Go.Act.mk #[.slice A' n cap, vf', .pointer (some ⟨W.heap.size, 0, none⟩), undef, .pointer (some ⟨W.heap.size + 2, 0, none⟩), .pointer (some ⟨W.heap.size + 3, 0, none⟩), undef, .chan (some (W.heap.size + 1)), .tuple #[], .func (.func 55) #[] #[.pointer (some ⟨W.heap.size + 3, 0, none⟩), .pointer (some ⟨W.heap.size + 2, 0, none⟩), .pointer (some ⟨W.heap.size, 0, none⟩)], undef, undef, undef, undef, undef, undef, undef, undef] []).eval oper41).events Try.prog W₇ #[] = #[] := by simp [execOp, go_sem, Go.Act.eval, resolve, Deferred.ofValue]
       have hstp := stepG_spawn (main := true) (b := Conc.base 35) (a := ⟨#[.slice A' n cap, vf', .pointer (some ⟨W.heap.size, 0, none⟩), undef, .pointer (some ⟨W.heap.size + 2, 0, none⟩), .pointer (some ⟨W.heap.size + 3, 0, none⟩), undef, .chan (some (W.heap.size + 1)), .tuple #[], .func (.func 55) #[] #[.pointer (some ⟨W.heap.size + 3, 0, none⟩), .pointer (some ⟨W.heap.size + 2, 0, none⟩), .pointer (some ⟨W.heap.size, 0, none⟩)], undef, undef, undef, undef, undef, undef, undef, undef], []⟩) (rest := []) (cs := cf :: cs) (k := [.code (.seq (.seq rEM5 (.block 0 (.loop loopEM))) rEM9)]) ops4_1 rfl (by decide) x1 rfl
       rw [hstp]
       unfold listed
       rw [x2, Conc.seen_none]
       rfl
     . rintro b (x | x)
       . exact .inl x
       . exact x.elim
     . rintro b ((x | x | x) | (x | x | x | x))
       . exact .inl (.inl x)
       . exact .inl (.inr x)
       . exact .inr (.inr (.inr (.inr x)))
       . exact .inl (.inl x)
       . exact .inl (.inr x)
       . exact .inr (.inr (.inl x))
       . exact .inr (.inr (.inr (.inr x)))
     . rintro b (x | x)
       . exact x.elim
       . exact .inr (.inl (.inr (.inr (.inl x))))
     . rintro b ⟨a, x, y⟩
       have hb := hlt a b x
       have hb2 := hstill b ⟨a, x, y⟩
       refine ⟨id, ?_, ?_⟩
       . rintro (z | ⟨a', x', y'⟩ | z | z)
         . omega
         . obtain rfl := hw.inj' a a' b (.inl x) (.inl x')
           exact y y'
         . omega
         . omega
       . intro z
         have z' : b = W.heap.size + 1 := z
         omega
     . intro b x
       exact x.elim
     . intro a ha
       obtain rfl : a = W.heap.size + 1 := List.mem_singleton.1 ha
       refine ⟨.inr (.inr (.inl rfl)), h7.1.b1, ?_, ?_, id, ?_⟩
       . rintro ⟨a, x, _⟩
         have := hlt a _ x; omega
       . rintro (z | ⟨a, x, _⟩ | z)
         . omega
         . have := hlt a _ x; omega
         . omega
       . rintro (z | ⟨a, x, _⟩ | z | z)
         . omega
         . have := hlt a _ x; omega
         . omega
         . omega
   refine beh_silent rfl rfl (λ W₁ s => by rw [rEM3_eq]; exact stepG_region) λ W₁ s => ?_
   rw [ops3_range]
   refine beh_silent rfl rfl (g' := G ((Conc.base wgl.add).at ⟨#[.pointer (some ⟨W.heap.size + 3, 0, none⟩), .int .i64 1, undef, undef, undef, undef, undef, undef, undef, undef, undef, undef, undef, undef, undef, undef, undef, undef, undef, undef, undef, undef, undef, undef, undef, undef, undef, undef, undef, undef, undef, undef, undef, undef, undef, undef, undef, undef, undef, undef, undef, undef, undef, undef, undef, undef, undef, undef, undef, undef, undef, undef, undef, undef, undef, undef, undef, undef, undef, undef, undef, undef, undef, undef, undef, undef, undef, undef, undef, undef, undef, undef, undef, undef, undef, undef, undef, undef, undef, undef, undef, undef, undef, undef, undef, undef, undef, undef, undef, undef, undef, undef, undef, undef, undef, undef, undef, undef, undef, undef, undef, undef, undef, undef, undef, undef, undef, undef, undef, undef, undef, undef, undef, undef, undef, undef, undef], []⟩ [.code (body_add wgl)]) ((Conc.base 35).at ⟨#[.slice A' n cap, vf', .pointer (some ⟨W.heap.size, 0, none⟩), undef, .pointer (some ⟨W.heap.size + 2, 0, none⟩), .pointer (some ⟨W.heap.size + 3, 0, none⟩), undef, .chan (some (W.heap.size + 1)), undef, undef, undef, undef, undef, undef, undef, undef, undef, undef], []⟩ [.inRegion ops3 [0], .code (.seq rEM4 (.seq (.seq rEM5 (.block 0 (.loop loopEM))) rEM9))] :: cf :: cs)) (λ W₂ s2 => ?_) λ W₂ s2 => ?_
   . obtain ⟨x1, x2⟩ := exec_call (p := Try.prog) (o := oper3) rfl (ρ := (Go.Act.mk #[.slice A' n cap, vf', .pointer (some ⟨W.heap.size, 0, none⟩), undef, .pointer (some ⟨W.heap.size + 2, 0, none⟩), .pointer (some ⟨W.heap.size + 3, 0, none⟩), undef, .chan (some (W.heap.size + 1)), undef, undef, undef, undef, undef, undef, undef, undef, undef, undef] []).eval) (λ g => rfl) wgLib.f_add rfl rfl W₂
     have hargs : (#[.tmp 5, .const (.int .i64 1)] : Array Operand).map (Go.Act.mk #[.slice A' n cap, vf', .pointer (some ⟨W.heap.size, 0, none⟩), undef, .pointer (some ⟨W.heap.size + 2, 0, none⟩), .pointer (some ⟨W.heap.size + 3, 0, none⟩), undef, .chan (some (W.heap.size + 1)), undef, undef, undef, undef, undef, undef, undef, undef, undef, undef] []).eval = #[.pointer (some ⟨W.heap.size + 3, 0, none⟩), .int .i64 1] := by simp [Go.Act.eval]
     rw [hargs] at x1
     have hstp := stepG_enter (main := true) (b := Conc.base 35) (a := ⟨#[.slice A' n cap, vf', .pointer (some ⟨W.heap.size, 0, none⟩), undef, .pointer (some ⟨W.heap.size + 2, 0, none⟩), .pointer (some ⟨W.heap.size + 3, 0, none⟩), undef, .chan (some (W.heap.size + 1)), undef, undef, undef, undef, undef, undef, undef, undef, undef, undef], []⟩) (rest := []) (cs := cf :: cs) (k := [.code (.seq rEM4 (.seq (.seq rEM5 (.block 0 (.loop loopEM))) rEM9))]) ops3_at rfl (by decide) x1
     rw [hstp]
     unfold listed
     rw [x2, Conc.seen_none, <- add_ent]
   . have hput : Go.Act.put ⟨#[.slice A' n cap, vf', .pointer (some ⟨W.heap.size, 0, none⟩), undef, .pointer (some ⟨W.heap.size + 2, 0, none⟩), .pointer (some ⟨W.heap.size + 3, 0, none⟩), undef, .chan (some (W.heap.size + 1)), undef, undef, undef, undef, undef, undef, undef, undef, undef, undef], []⟩ ((ops3[0]?).bind (·.dst)) (.tuple #[]) = ⟨#[.slice A' n cap, vf', .pointer (some ⟨W.heap.size, 0, none⟩), undef, .pointer (some ⟨W.heap.size + 2, 0, none⟩), .pointer (some ⟨W.heap.size + 3, 0, none⟩), undef, .chan (some (W.heap.size + 1)), .tuple #[], undef, undef, undef, undef, undef, undef, undef, undef, undef], []⟩ := by rw [ops3_at]; rfl
     rw [<- hput] at hgo
     exact addW (A := pipe (W.heap.size + 1) n (recVal rs)) (b₀ := Conc.base 35) (a₀ := ⟨#[.slice A' n cap, vf', .pointer (some ⟨W.heap.size, 0, none⟩), undef, .pointer (some ⟨W.heap.size + 2, 0, none⟩), .pointer (some ⟨W.heap.size + 3, 0, none⟩), undef, .chan (some (W.heap.size + 1)), undef, undef, undef, undef, undef, undef, undef, undef, undef, undef], []⟩) (ops₀ := ops3) (i₀ := 0) (rest₀ := []) (k₀ := [.code (.seq rEM4 (.seq (.seq rEM5 (.block 0 (.loop loopEM))) rEM9))]) (cs := cf :: cs) (Fin := finJ Post Shun (W.heap.size + 3)) (l := PpL.m0) (nx := PpL.m1) (Wg := W.heap.size + 3) wgLib rfl kf hgo W₂ ⟨kf.suf _ _ s2 (kf.suf _ _ s hF0), s2.live (s.live ⟨0, 0, hst.b3⟩)⟩
end
end Go.Proofs.Ytjcpjijihajopaa
namespace Go.Proofs.Ytjcpjijihajopaa
open Go.RowKit Go.Mt Go.Conc Go.Tt Go.Conc.Lib Go.ConcR.Gen
abbrev JE (St : Nat -> Prop) (W0 : World) (Post : Value -> World -> Prop) (m : Fm) (ms : List Fm) (w : World) : Prop := JL Try.prog (inL olL) (inL alL) fsF St W0 Post m ms w
theorem ar_two {S : FuncId -> Prop} {K R : Pr} {a b : Value} {xs' : Array Value} (h : ArR S K R #[a, b] xs') : ∃ a' b', xs' = #[a', b'] /\ VR S K R a a' /\ VR S K R b b' := by
 obtain ⟨l⟩ := xs'
 obtain ⟨h1, h2⟩ := h
 simp only [List.size_toArray, List.length_cons, List.length_nil] at h1
 match l, h1 with
 | [x, y], _ => exact ⟨x, y, rfl, h2 0 a x rfl rfl, h2 1 b y rfl rfl⟩
section
variable {St : Nat -> Prop} {W0 : World} {Post : Value -> World -> Prop}
set_option maxRecDepth 100000 in
theorem jo_each {m : Fm} {ms : List Fm} {w : World} {ops : Array Oper} {i : Nat} {rest : List Nat} {k : List Item} {o : Oper} {args : Array Operand} {ats : Array TypeId} {A : Option Addr} {n cap : Nat} {f : FuncId} {capt : Array Value} {rs : List RecD} {I : Nat -> World -> Prop} {src : Option Blk}
   (hr : m.ret = false) (htd : m.todo = .inRegion ops (i :: rest) :: k) (ho : ops[i]? = some o) (hwt : Region.wanted o (yielded ops m.tmps) = true) (hop : o.op = .call ⟨.value (.func 35), args, ats⟩) (hargs : args.all (okX fsF) = true)
   (hv : args.map m.eval = #[.slice A n cap, .func (.func f) #[] capt]) (hs : srcOk w A src) (hlo : ∀ b, src = some b -> Try.prog.globals.size <= b.rb) (hslc : Slc w 0 w.heap.size 7 A n cap (recs rs)) (hn : n <= 1048576) (E : EachI f capt rs I) (hf : gsF f = true) (hI0 : I 0 (ghostM w src 76))
   (hJ : ∀ wn, I n wn -> JE St W0 Post (m.fin ops i rest k (.tuple #[])) ms (thaw wn src)) : JE St W0 Post m ms w := by
 refine JO.callF lvF hr htd ho hwt hop rfl hargs λ K R W m' ms' Shun xs' hw hm hms hsh hk hxs => ?_
 rw [hv] at hxs
 obtain ⟨a', vf', rfl, ha, hvf⟩ := ar_two hxs
 cases ha with
 | slice hA =>
   rename_i A'
   have htd' : m'.todo = .inRegion ops (i :: rest) :: k := hm.todo.symm.trans htd
   refine each_start hsh.new λ W4 hst => ?_
   refine each_phase (R := R) (W0 := W0) (St := St) (src := src) (cf := m'.fr) (cs := ms'.map Fm.fr) hw hsh hk hs hlo hslc hn hA hvf hst E hf hI0 λ K' R' wn Wn hK hR hrel hin hsh' hk' => ?_
   rw [finish_fr htd']
   exact hJ wn hin K' R' Wn _ ms' _ hrel ((FmR.monoK hK (hm.mono hR)).fin htd (.tuple rfl λ i v v' h => by simp at h)) (MsR.monoK hK (hms.mono hR)) hsh' hk'
end
end Go.Proofs.Ytjcpjijihajopaa
namespace Go.Proofs.Ytjcpjijihajopaa
open Go.RowKit Go.Maps
end Go.Proofs.Ytjcpjijihajopaa
namespace Go.Proofs.Ytjcpjijihajopaa
open Go.RowKit Go.Mt Go.Conc Go.Tt Go.Maps
end Go.Proofs.Ytjcpjijihajopaa
namespace Go.Proofs.Ytjcpjijihajopaa
open Go.RowKit Go.Mt Go.Conc Go.Tt Go.Maps
structure Bl (B : Nat) (w w' : World) : Prop where
 size : w.heap.size <= w'.heap.size
 block : ∀ b, b < B -> w'.heap[b]? = w.heap[b]?
theorem Bl.refl (B : Nat) (w : World) : Bl B w w := ⟨Nat.le_refl _, λ _ _ => rfl⟩
theorem Bl.trans {B : Nat} {a b c : World} (h : Bl B a b) (k : Bl B b c) : Bl B a c := ⟨Nat.le_trans h.size k.size, λ x hx => (k.block x hx).trans (h.block x hx)⟩
theorem Bl.below {B : Nat} {a b c : World} (h : Bl B a b) (k : Below b.heap.size b c) (hB : B <= a.heap.size) : Bl B a c := ⟨Nat.le_trans h.size k.size, λ x hx => (k.block x (by have := h.size; omega)).trans (h.block x hx)⟩
theorem Bl.tp {B : Nat} {a b : World} (h : Bl B a b) (T : Tape) (e : Nat) : Bl B a (Tt.tp b T e) := ⟨h.size, h.block⟩
theorem Bl.al {B : Nat} {a b : World} (h : Bl B a b) (hB : B <= a.heap.size) (o : Obj) : Bl B a (b.alloc o) := ⟨by rw [size_push]; have := h.size; omega, λ x hx => (heap_push_lt (by have := h.size; omega)).trans (h.block x hx)⟩
theorem Slc.bl {w w' : World} {s n c : Nat} {A : Option Addr} {xs : List Value} (h : Slc w 0 w.heap.size s A n c xs) (k : Bl w.heap.size w w') : Slc w' 0 w'.heap.size s A n c xs :=
 (h.keep k.size λ b _ _ h3 => k.block b h3).wide (Nat.le_refl _) k.size
theorem srcOk_bl {w w' : World} {A : Option Addr} {src : Option Blk} (h : srcOk w A src) (k : Bl w.heap.size w w') : srcOk w' A src := by
 cases src with
 | none => exact h
 | some b => exact ⟨h.1, (k.block _ (Array.getElem?_eq_some_iff.1 h.2.1).1).trans h.2.1, h.2.2⟩
theorem thaw_at {wn : World} {src : Option Blk} {x : Nat} (h : ∀ b, src = some b -> b.rb ≠ x) : (thaw wn src).heap[x]? = wn.heap[x]? := by
 cases src with
 | none => rfl
 | some b => exact put_ne (h b rfl)
theorem frz_at {wn : World} {src : Option Blk} {x : Nat} (h : ∀ b, src = some b -> b.rb ≠ x) : (frz wn src).heap[x]? = wn.heap[x]? := by
 cases src with
 | none => rfl
 | some b => exact put_ne (h b rfl)
theorem ghostM_at {w : World} {src : Option Blk} {T : TypeId} {x : Nat} (hx : x < w.heap.size) (h : ∀ b, src = some b -> b.rb ≠ x) : (ghostM w src T).heap[x]? = w.heap[x]? := by
 unfold ghostM
 rw [heap_push_lt (by rw [size_push, frz_size]; omega), heap_push_lt (by rw [frz_size]; omega), frz_at h]
theorem ghostM_size (w : World) (src : Option Blk) (T : TypeId) : (ghostM w src T).heap.size = w.heap.size + 2 := by
 unfold ghostM; rw [size_push, size_push, frz_size]
theorem thaw_bl {B : Nat} {w w3 wn : World} {A : Option Addr} {src : Option Blk} {T : TypeId} (hs : srcOk w3 A src) (h : Bl B w w3) (hB : B <= w.heap.size) (hb : ∀ x, x < B -> wn.heap[x]? = (ghostM w3 src T).heap[x]?) (hz : w3.heap.size <= wn.heap.size) (hlt : ∀ b, src = some b -> b.rb < B) : Bl B w (thaw wn src) := by
 refine ⟨by rw [thaw_size]; exact Nat.le_trans h.size hz, λ x hx => ?_⟩
 rw [<- h.block x hx]
 have hx3 : x < w3.heap.size := by have := h.size; omega
 by_cases e : ∃ b, src = some b /\ b.rb = x
 . obtain ⟨b, rfl, rfl⟩ := e
   obtain ⟨_, h2, _⟩ := hs
   rw [h2]
   exact put_same (by omega)
 . have e' : ∀ b, src = some b -> b.rb ≠ x := λ b h1 h2 => e ⟨b, h1, h2⟩
   rw [thaw_at e', hb x hx, ghostM_at hx3 e']
end Go.Proofs.Ytjcpjijihajopaa
namespace Go.Proofs.Ytjcpjijihajopaa
open Go.RowKit Go.Mt Go.Conc Go.Tt Go.Maps
theorem exec_makeFunc {p : Program} {o : Oper} {f : FuncId} {first cap : Array Operand} {ρ : Operand -> Value} (hop : o.op = .makeFunc (.func f) first cap) (w : World) : (execOp ρ o).run p w = .ok (.value (.func (.func f) (first.map ρ) (cap.map ρ))) w := by
 obtain ⟨dst, op', type, pos, after, guard⟩ := o
 simp only at hop
 subst hop
 simp [execOp, go_sem]
end Go.Proofs.Ytjcpjijihajopaa
namespace Go.Proofs.Ytjcpjijihajopaa
open Go.RowKit Go.Mt Go.Conc Go.Tt Go.Maps
section
variable {p : Program} {op gs gs₁ fs : FuncId -> Bool} {St : Nat -> Prop} {W0 : World} {Post : Value -> World -> Prop}
theorem JO.pieceQ (L : Lv p op gs gs₁ fs) {fn : FuncId} {tmps : Array Value} {c : Go.Code} {k : List Item} {b : List Fm} {w : World} (hc : fitCode p ⟨fs, gs₁, false⟩ c = true) (hfn : op fn = false)
   (hwp : ∀ (T : Tape) (Q : Exit -> Go.Act -> World -> Prop), Hid (∀ a' w', JL p op gs fs St W0 Post ⟨fn, a'.tmps, k, false⟩ b w' -> Q .normal a' w') -> Code.wp p c Q ⟨tmps, []⟩ (Tt.tp w T 0)) :
   JL p op gs fs St W0 Post ⟨fn, tmps, .code c :: k, false⟩ b w :=
 JO.piece L hc hfn λ T => hwp T _ (Lib.hid λ a' w' h => ⟨rfl, h⟩)
theorem JO.tailQ (L : Lv p op gs gs₁ fs) {fn : FuncId} {tmps : Array Value} {c : Go.Code} {b : List Fm} {w : World} (hc : fitCode p ⟨fs, gs₁, false⟩ c = true) (hfn : op fn = false)
   (hwp : ∀ (T : Tape) (Q : Exit -> Go.Act -> World -> Prop), Hid (∀ a' w', (∀ todo, JL p op gs fs St W0 Post ⟨fn, a'.tmps, todo, true⟩ b w') -> Q .ret a' w') -> Code.wp p c Q ⟨tmps, []⟩ (Tt.tp w T 0)) :
   JL p op gs fs St W0 Post ⟨fn, tmps, [.code c], false⟩ b w :=
 JO.tail L hc hfn λ T => hwp T _ (Lib.hid λ a' w' h => ⟨.inr rfl, h⟩)
end
theorem Slc.tp {w : World} {lo hi s n c : Nat} {A : Option Addr} {xs : List Value} (h : Slc w lo hi s A n c xs) (T : Tape) (e : Nat) : Slc (Tt.tp w T e) lo hi s A n c xs := ⟨h.len, h.le, h.cap, h.at_⟩
theorem Slc.bls {w w' : World} {lo hi s n c B : Nat} {A : Option Addr} {xs : List Value} (h : Slc w lo hi s A n c xs) (k : Bl B w w') (hB : w.heap.size <= B) : Slc w' lo hi s A n c xs := h.keep k.size λ b _ _ h3 => k.block b (by omega)
theorem Bl.below' {B : Nat} {a b c : World} (h : Bl B a b) (k : Below b.heap.size b c) (hB : B <= b.heap.size) : Bl B a c := ⟨Nat.le_trans h.size k.size, λ x hx => (k.block x (by omega)).trans (h.block x hx)⟩
end Go.Proofs.Ytjcpjijihajopaa
namespace Go.Proofs.Ytjcpjijihajopaa
open Go.RowKit
theorem sumR_app (f : RecD -> Int) (a b : List RecD) : sumR f (a ++ b) = sumR f a + sumR f b := by unfold sumR; simp
theorem sumR_split (f : RecD -> Int) (ds : List RecD) (h : Nat) : sumR f ds = sumR f (ds.take h) + sumR f (ds.drop h) := by
 rw [<- sumR_app, List.take_append_drop]
theorem recs_take (rs : List RecD) (k : Nat) : (recs rs).take (k * 7) = recs (rs.take k) := by
 induction rs generalizing k with
 | nil => simp [recs]
 | cons x xs ih =>
   cases k with
   | zero => simp [recs]
   | succ k =>
     have e : (k + 1) * 7 = k * 7 + 1 + 1 + 1 + 1 + 1 + 1 + 1 := by omega
     rw [e]
     simp only [recs, List.flatMap_cons, RecD.cells, List.cons_append, List.nil_append, List.take_succ_cons]
     have := ih k
     unfold recs at this
     rw [this]
theorem recs_drop (rs : List RecD) (k : Nat) : (recs rs).drop (k * 7) = recs (rs.drop k) := by
 induction rs generalizing k with
 | nil => simp [recs]
 | cons x xs ih =>
   cases k with
   | zero => simp [recs]
   | succ k =>
     have e : (k + 1) * 7 = k * 7 + 1 + 1 + 1 + 1 + 1 + 1 + 1 := by omega
     rw [e]
     simp only [recs, List.flatMap_cons, RecD.cells, List.cons_append, List.nil_append, List.drop_succ_cons]
     have := ih k
     unfold recs at this
     rw [this]
end Go.Proofs.Ytjcpjijihajopaa
namespace Go.Proofs.Ytjcpjijihajopaa
open Go.RowKit
structure CallD where
 c : Int
 p : Int
deriving DecidableEq
def CallD.cells (x : CallD) : List Value := [.int .i64 x.c, .int .i64 x.p]
def calls (xs : List CallD) : List Value := xs.flatMap CallD.cells
structure OffD where
 ln : Int
 op : Int
 pt : Int
deriving DecidableEq
structure EventD where
 k : ByteArray
 a : Int
 b : Int
deriving DecidableEq
def EventD.cells (x : EventD) : List Value := [.string x.k, .int .i64 x.a, .int .i64 x.b]
def events (xs : List EventD) : List Value := xs.flatMap EventD.cells
def isOpen (d : RecD) : Bool := d.e.toList == [111, 112, 101, 110]
def openP (c : Int) (d : RecD) : Bool := d.c == c && isOpen d
def openAt (rs : List RecD) (c : Int) : Option Nat := rs.findIdx? (openP c)
def posI : Option Nat -> Int
 | some i => (i : Int)
 | none => -1
def talkP (op : Int) (d : RecD) : Bool := d.o == op && isOpen d
def talksF (rs : List RecD) (op : Int) : Int := match rs.find? (talkP op) with | some d => d.c | none => 0
def usedB (rs : List RecD) (l : Int) : Bool := rs.any λ d => d.l == l && isOpen d
def freeTo (rs : List RecD) (n : Nat) : List Int := ((List.range n).map λ i : Nat => (i : Int) + 1).filter λ l => !usedB rs l
def freeF (o : OffD) (rs : List RecD) : List Int := freeTo rs o.ln.toNat
def findC6 (xs : List CallD) (c : Int) : Option Nat := xs.findIdx? λ x => x.c == c
def withoutF (xs : List CallD) (c : Int) : List CallD := xs.filter λ x => x.c != c
def queuedF (xs : List CallD) (c : CallD) : List CallD := xs.takeWhile (λ x => decide (c.p <= x.p)) ++ c :: xs.dropWhile (λ x => decide (c.p <= x.p))
structure RoomD where
 o : OffD
 clk : Int
 recs : List RecD
 wait : List CallD
 back : List CallD
 log : List (List UInt8)
def doneE : ByteArray := ⟨#[100, 111, 110, 101]⟩
def leftE : ByteArray := ⟨#[108, 101, 102, 116]⟩
def tiredE : ByteArray := ⟨#[116, 105, 114, 101, 100]⟩
def openB : ByteArray := ⟨#[111, 112, 101, 110]⟩
def endRec (b : RoomD) (i : Nat) (e : ByteArray) : List RecD := b.recs.modify i λ d => { d with t := b.clk, e := e }
def callAt (rs : List RecD) (i : Nat) : Int := match rs[i]? with | some d => d.c | none => 0
def endsF (b : RoomD) (i : Nat) (e : ByteArray) : RoomD := { b with recs := endRec b i e, wait := withoutF b.wait (callAt b.recs i) }
def numT (n : Int) : List UInt8 := Lib.itoa n
def ringsF (b : RoomD) (c : CallD) : RoomD × List UInt8 :=
 if (openAt b.recs c.c).isSome || (findC6 b.back c.c).isSome then (b, [107, 110, 111, 119, 110])
 else match freeF b.o b.recs with
   | [] => ({ b with back := b.back ++ [c] }, [98, 117, 115, 121])
   | l :: _ => ({ b with recs := b.recs ++ [⟨c.c, l, 0, b.clk, -1, -1, openB⟩], wait := queuedF b.wait c }, [108, 105, 110, 101, 32] ++ numT l)
def answersF (b : RoomD) (op : Int) : RoomD × List UInt8 :=
 if 0 < talksF b.recs op then (b, [116, 97, 108, 107, 115])
 else match b.wait with
   | [] => (b, [110, 111, 110, 101])
   | c :: _ => match openAt b.recs c.c with
     | none => (b, [])
     | some i => ({ b with recs := b.recs.modify i λ d => { d with o := op, h := b.clk }, wait := withoutF b.wait c.c }, [99, 97, 108, 108, 32] ++ numT c.c)
def returnsF (b : RoomD) (op : Int) : RoomD × List UInt8 :=
 if 0 < talksF b.recs op then (b, [116, 97, 108, 107, 115])
 else match b.back with
   | [] => (b, [110, 111, 110, 101])
   | c :: _ => match freeF b.o b.recs with
     | [] => (b, [98, 117, 115, 121])
     | l :: _ => ({ b with back := withoutF b.back c.c, recs := b.recs ++ [⟨c.c, l, op, b.clk, b.clk, -1, openB⟩] }, [99, 97, 108, 108, 32] ++ numT c.c)
def opAt (rs : List RecD) (i : Nat) : Int := match rs[i]? with | some d => d.o | none => 0
def hangsF (b : RoomD) (c : Int) : RoomD × List UInt8 :=
 match openAt b.recs c with
 | some i => if 0 < opAt b.recs i then (endsF b i doneE, [100, 111, 110, 101]) else (endsF b i leftE, [108, 101, 102, 116])
 | none => if (findC6 b.back c).isSome then ({ b with back := withoutF b.back c }, [111, 102, 102]) else (b, [103, 111, 110, 101])
def fromAt (rs : List RecD) (i : Nat) : Int := match rs[i]? with | some d => d.f | none => 0
def tireF (bt : RoomD × List UInt8) (x : CallD) : RoomD × List UInt8 :=
 match openAt bt.1.recs x.c with
 | none => bt
 | some i => if bt.1.o.pt <= bt.1.clk - fromAt bt.1.recs i then
     ({ endsF bt.1 i tiredE with back := bt.1.back ++ [x] }, bt.2 ++ [32] ++ numT x.c) else bt
def waitsF (b : RoomD) (m : Int) : RoomD × List UInt8 := b.wait.foldl tireF ({ b with clk := b.clk + m }, [97, 116, 32] ++ numT (b.clk + m))
def ringW : List UInt8 := [114, 105, 110, 103]
def hangW : List UInt8 := [104, 97, 110, 103]
def answerW : List UInt8 := [97, 110, 115, 119, 101, 114]
def returnW : List UInt8 := [114, 101, 116, 117, 114, 110]
def waitW : List UInt8 := [119, 97, 105, 116]
def offStep (b : RoomD) (e : EventD) : RoomD × List UInt8 :=
 if e.k.toList = ringW then ringsF b ⟨e.a, e.b⟩ else if e.k.toList = answerW then answersF b e.a else if e.k.toList = returnW then returnsF b e.a else if e.k.toList = hangW then hangsF b e.a else waitsF b e.a
def eventP (ops : Int) (e : EventD) : Prop :=
 (e.k.toList = ringW /\ 1 <= e.a /\ e.a <= 99 /\ 0 <= e.b /\ e.b <= 9) \/ (e.k.toList = hangW /\ 1 <= e.a /\ e.a <= 99 /\ e.b = 0) \/ ((e.k.toList = answerW \/ e.k.toList = returnW) /\ 1 <= e.a /\ e.a <= ops /\ e.b = 0) \/ (e.k.toList = waitW /\ 1 <= e.a /\ e.a <= 60 /\ e.b = 0)
instance (ops : Int) (e : EventD) : Decidable (eventP ops e) := by unfold eventP; infer_instance
def eventB (ops : Int) (e : EventD) : Bool := decide (eventP ops e)
def offB (o : OffD) : Bool := decide (1 <= o.ln /\ o.ln <= 6 /\ 1 <= o.op /\ o.op <= 4 /\ 1 <= o.pt /\ o.pt <= 60)
def officeOk (o : OffD) (es : List EventD) : Bool := offB o && decide (es.length <= 60) && es.all (eventB o.op)
def room0 (o : OffD) : RoomD := ⟨o, 0, [], [], [], []⟩
def logF (bt : RoomD × List UInt8) : RoomD := { bt.1 with log := bt.1.log ++ [bt.2] }
def offRun (o : OffD) (es : List EventD) : RoomD := es.foldl (λ b e => logF (offStep b e)) (room0 o)
def roomF (o : OffD) (es : List EventD) : RoomD := if officeOk o es then offRun o es else room0 o
end Go.Proofs.Ytjcpjijihajopaa
namespace Go.Proofs.Ytjcpjijihajopaa
open Go.RowKit
theorem Slc.callsLen {w : World} {lo hi n c : Nat} {A : Option Addr} {ds : List CallD} (h : Slc w lo hi 2 A n c (calls ds)) : ds.length = n := by
 have h1 := h.len; have h2 := flat_len CallD.cells (s := 2) (λ _ => rfl) ds
 unfold calls at h1; omega
theorem Slc.callsAt {w : World} {lo hi n c : Nat} {A : Option Addr} {ds : List CallD} (h : Slc w lo hi 2 A n c (calls ds)) {k : Nat} (hk : k < n) :
   ∃ b off d, A = some ⟨b, off, none⟩ /\ lo <= b /\ b < hi /\ b < w.heap.size /\ ds[k]? = some d /\ w.cell? ⟨b, off + k * 2, none⟩ = some (.int .i64 d.c) /\ w.cell? ⟨b, off + k * 2 + 1, none⟩ = some (.int .i64 d.p) := by
 have hl := h.callsLen
 have hx : ds[k]? = some ds[k] := List.getElem?_eq_getElem (by omega)
 have g : ∀ i, i < 2 -> (calls ds)[k * 2 + i]? = (ds[k].cells)[i]? := λ i hi => by
   have := flat_get CallD.cells (s := 2) (λ _ => rfl) ds k i hi
   rw [hx] at this; exact this
 obtain ⟨b, off, rfl, h1, h2, h3, h4⟩ := h.cells hk
 exact ⟨b, off, ds[k], rfl, h1, h2, h3, hx, h4 0 _ (g 0 (by decide)), by rw [Nat.add_assoc]; exact h4 1 _ (g 1 (by decide))⟩
end Go.Proofs.Ytjcpjijihajopaa
namespace Go.Proofs.Ytjcpjijihajopaa
open Go.RowKit
theorem Slc.eventsLen {w : World} {lo hi n c : Nat} {A : Option Addr} {ds : List EventD} (h : Slc w lo hi 3 A n c (events ds)) : ds.length = n := by
 have h1 := h.len; have h2 := flat_len EventD.cells (s := 3) (λ _ => rfl) ds
 unfold events at h1; omega
theorem Slc.eventsAt {w : World} {lo hi n c : Nat} {A : Option Addr} {ds : List EventD} (h : Slc w lo hi 3 A n c (events ds)) {k : Nat} (hk : k < n) :
   ∃ b off d, A = some ⟨b, off, none⟩ /\ lo <= b /\ b < hi /\ b < w.heap.size /\ ds[k]? = some d /\ w.cell? ⟨b, off + k * 3, none⟩ = some (.string d.k) /\ w.cell? ⟨b, off + k * 3 + 1, none⟩ = some (.int .i64 d.a) /\ w.cell? ⟨b, off + k * 3 + 2, none⟩ = some (.int .i64 d.b) := by
 have hl := h.eventsLen
 have hx : ds[k]? = some ds[k] := List.getElem?_eq_getElem (by omega)
 have g : ∀ i, i < 3 -> (events ds)[k * 3 + i]? = (ds[k].cells)[i]? := λ i hi => by
   have := flat_get EventD.cells (s := 3) (λ _ => rfl) ds k i hi
   rw [hx] at this; exact this
 obtain ⟨b, off, rfl, h1, h2, h3, h4⟩ := h.cells hk
 exact ⟨b, off, ds[k], rfl, h1, h2, h3, hx, h4 0 _ (g 0 (by decide)), by rw [Nat.add_assoc]; exact h4 1 _ (g 1 (by decide)), by rw [Nat.add_assoc]; exact h4 2 _ (g 2 (by decide))⟩
end Go.Proofs.Ytjcpjijihajopaa
namespace Go.Proofs.Ytjcpjijihajopaa
open Go.RowKit
theorem hb2 {W0 W : World} {a1 a2 : Addr} {v1 v2 : Value} (h : W.cell? a1 = some v1 /\ W.cell? a2 = some v2 /\ Below W0.heap.size W0 W) : Below W0.heap.size W0 W := h.2.2
theorem hb2_to {W0 W' : World} {a1 a2 : Addr} {v1 v2 : Value} (z1 : a1.block < W0.heap.size) (z2 : a2.block < W0.heap.size) (h1 : W0.cell? a1 = some v1) (h2 : W0.cell? a2 = some v2) (hb : Below W0.heap.size W0 W') : W'.cell? a1 = some v1 /\ W'.cell? a2 = some v2 /\ Below W0.heap.size W0 W' :=
 ⟨(World.cell?_of_block (hb.block _ z1)).trans h1, (World.cell?_of_block (hb.block _ z2)).trans h2, hb⟩
section
variable {P : Program} (w : World)
theorem run_apps (t ty : TypeId) (base : Nat) (e : TypeId) (i : TypeInfo) (z : Value) (size bytes : Nat) (ht : P.underlying t = some (.slice e)) (hi : P.info? e = some i) (hz : i.zero = some z)
   (hsize : i.size = size) (hby : i.bytes = bytes) (hzs : z.cells.size = size) (hsz : 0 < size)
   (g0 n c0 : Nat) (xs : List Value) (hown : w.ownsRow base e size (.slice (some ⟨g0, 0, none⟩) n c0) n xs)
   (A : Option Addr) (m c lo hi' : Nat) (news : List Value) (hs : Slc w lo hi' size A m c news) (h1 : ∀ u ∈ news, u.oneCell' = true)
   (h63 : n + m <= maxLen) (hbytes : (n + m) * bytes <= 140737488355328) (hbase : base <= w.heap.size) :
   ∃ g cap w', (Builtin.append_ #[t, t] ty #[.slice (some ⟨g0, 0, none⟩) n c0, .slice A m c]).run P w = .ok (.slice (some ⟨g, 0, none⟩) (n + m) cap) w' /\
     w'.ownsRow base e size (.slice (some ⟨g, 0, none⟩) (n + m) cap) (n + m) (xs ++ news) /\ w.grownBy w' (Value.ownBlock (.slice (some ⟨g0, 0, none⟩) n c0)) /\ Below base w w' := by
 cases A with
 | none =>
   have hm : m = 0 := by
     rcases Nat.eq_zero_or_pos m with h | h
     . exact h
     . obtain ⟨b, off, e, _⟩ := hs.at_ h; cases e
   subst hm
   have hnl : news = [] := by have := hs.len; simp at this; exact this
   subst hnl
   have hle : n <= c0 := by
     obtain ⟨_, h | ⟨b, cap, cur, e, h1, h2, h3, _⟩⟩ := hown
     . cases h.1
     . injection e with _ _ e; omega
   have hr := run_append_room_src (P := P) w t t ty e i ht hi g0 0 n c0 (.slice none 0 c) 0 [] (Src.ofNil (P := P) (e' := e) w ht c) (by omega) (by intro j hj; simp at hj) (by intro j hj; simp at hj)
   refine ⟨g0, c0, w, by simpa [World.setCells] using hr, by simpa using hown, ⟨rfl, rfl, rfl, Nat.le_refl _, λ _ _ _ => rfl⟩, Below.refl _ _⟩
 | some ad =>
   by_cases hm : 0 < m
   . obtain ⟨b, off, e', _, _, _, h4⟩ := hs.at_ hm
     injection e' with e'
     subst e'
     exact run_app w t ty base e i z size bytes ht hi hz hsize hby hzs hsz _ n xs hown (by simp) _ m c news hs.len (λ j u hu => by rw [Addr.add_lit]; exact h4 j u hu) h1 h63 hbytes hbase
   . obtain rfl : m = 0 := by omega
     have hnl : news = [] := by have := hs.len; simp at this; exact this
     subst hnl
     exact run_app w t ty base e i z size bytes ht hi hz hsize hby hzs hsz _ n xs hown (by simp) _ 0 c [] (by simp) (λ j u hu => by simp at hu) (λ u hu => by cases hu) h63 hbytes hbase
theorem wp_apps {o : Oper} {a : Act} {K : Act -> World -> Prop} {Q : Exit -> Act -> World -> Prop} (s x : Operand) (t : TypeId)
   (ho : o.op = .call { callee := .builtin .append, args := #[s, x], argTypes := #[t, t] })
   (base : Nat) (e : TypeId) (i : TypeInfo) (z : Value) (size bytes : Nat) (ht : P.underlying t = some (.slice e)) (hi : P.info? e = some i) (hz : i.zero = some z)
   (hsize : i.size = size) (hby : i.bytes = bytes) (hzs : z.cells.size = size) (hsz : 0 < size)
   (g0 n c0 : Nat) (xs : List Value) (hsv : a.eval s = .slice (some ⟨g0, 0, none⟩) n c0) (hown : w.ownsRow base e size (.slice (some ⟨g0, 0, none⟩) n c0) n xs)
   (A : Option Addr) (m c lo hi' : Nat) (news : List Value) (hx : a.eval x = .slice A m c) (hs : Slc w lo hi' size A m c news) (h1 : ∀ u ∈ news, u.oneCell' = true)
   (h63 : n + m <= maxLen) (hbytes : (n + m) * bytes <= 140737488355328) (hbase : base <= w.heap.size)
   (h : ∀ g cap w', w'.ownsRow base e size (.slice (some ⟨g, 0, none⟩) (n + m) cap) (n + m) (xs ++ news) -> w.grownBy w' (Value.ownBlock (.slice (some ⟨g0, 0, none⟩) n c0)) -> Below base w w' -> K (a.put o.dst (.slice (some ⟨g, 0, none⟩) (n + m) cap)) w') : o.wp P a w K Q := by
 obtain ⟨g, cap, w', hr, h2, h3, h4⟩ := run_apps (P := P) w t o.type base e i z size bytes ht hi hz hsize hby hzs hsz g0 n c0 xs hown A m c lo hi' news hs h1 h63 hbytes hbase
 unfold Oper.wp execOp
 simp only [ho, resolve, invoke, builtin, Sem.run_bind, Sem.run_pure, Result.andThen_ok, List.map_toArray, List.map_cons, List.map_nil, hsv, hx, hr]
 exact h g cap w' h2 h3 h4
theorem step_apps {ops : Array Oper} {o : Oper} {a : Act} {K : Act -> World -> Prop} {Q : Exit -> Act -> World -> Prop} {EE : Prop} (hw : Region.wanted o (yielded ops a.tmps) = true) (s x : Operand) (t : TypeId)
   (ho : o.op = .call { callee := .builtin .append, args := #[s, x], argTypes := #[t, t] })
   (base : Nat) (e : TypeId) (i : TypeInfo) (z : Value) (size bytes : Nat) (ht : P.underlying t = some (.slice e)) (hi : P.info? e = some i) (hz : i.zero = some z)
   (hsize : i.size = size) (hby : i.bytes = bytes) (hzs : z.cells.size = size) (hsz : 0 < size)
   (g0 n c0 : Nat) (xs : List Value) (hsv : a.eval s = .slice (some ⟨g0, 0, none⟩) n c0) (hown : w.ownsRow base e size (.slice (some ⟨g0, 0, none⟩) n c0) n xs)
   (A : Option Addr) (m c lo hi' : Nat) (news : List Value) (hx : a.eval x = .slice A m c) (hs : Slc w lo hi' size A m c news) (h1 : ∀ u ∈ news, u.oneCell' = true)
   (h63 : n + m <= maxLen) (hbytes : (n + m) * bytes <= 140737488355328) (hbase : base <= w.heap.size)
   (h : ∀ g cap w', w'.ownsRow base e size (.slice (some ⟨g, 0, none⟩) (n + m) cap) (n + m) (xs ++ news) -> w.grownBy w' (Value.ownBlock (.slice (some ⟨g0, 0, none⟩) n c0)) -> Below base w w' -> K (a.put o.dst (.slice (some ⟨g, 0, none⟩) (n + m) cap)) w') :
   if Region.wanted o (yielded ops a.tmps) = true then Oper.wp P o a w K Q else EE := by
 rw [if_pos hw]
 exact wp_apps w s x t ho base e i z size bytes ht hi hz hsize hby hzs hsz g0 n c0 xs hsv hown A m c lo hi' news hx hs h1 h63 hbytes hbase h
end
end Go.Proofs.Ytjcpjijihajopaa
namespace Go.Proofs.Ytjcpjijihajopaa
open Go.RowKit
theorem findIdx_at {α : Type} {p : α -> Bool} : ∀ {l : List α} {k : Nat} {a : α}, l[k]? = some a -> p a = true -> (∀ j, j < k -> ∀ b, l[j]? = some b -> p b = false) -> l.findIdx? p = some k
 | [], k, a, h, _, _ => by simp at h
 | x :: xs, 0, a, h, ha, _ => by
   simp at h; subst h
   rw [List.findIdx?_cons, if_pos ha]
 | x :: xs, k + 1, a, h, ha, hn => by
   have hx := hn 0 (by omega) x rfl
   rw [List.findIdx?_cons, hx, findIdx_at (l := xs) (k := k) (by simpa using h) ha (λ j hj b hb => hn (j + 1) (by omega) b (by simpa using hb))]
   simp
theorem findIdx_no {α : Type} {p : α -> Bool} {l : List α} {k : Nat} (hn : ∀ j, j < k -> ∀ b, l[j]? = some b -> p b = false) (hk : l.length <= k) : l.findIdx? p = none := by
 rw [List.findIdx?_eq_none_iff]
 intro x hx
 obtain ⟨j, hj, e⟩ := List.mem_iff_getElem.1 hx
 exact hn j (by omega) x (by rw [List.getElem?_eq_getElem hj, e])
theorem find_at {α : Type} {p : α -> Bool} : ∀ {l : List α} {k : Nat} {a : α}, l[k]? = some a -> p a = true -> (∀ j, j < k -> ∀ b, l[j]? = some b -> p b = false) -> l.find? p = some a
 | [], k, a, h, _, _ => by simp at h
 | x :: xs, 0, a, h, ha, _ => by
   simp at h; subst h
   rw [List.find?_cons, ha]
 | x :: xs, k + 1, a, h, ha, hn => by
   have hx := hn 0 (by omega) x rfl
   rw [List.find?_cons, hx]
   exact find_at (l := xs) (k := k) (by simpa using h) ha (λ j hj b hb => hn (j + 1) (by omega) b (by simpa using hb))
theorem find_no {α : Type} {p : α -> Bool} {l : List α} {k : Nat} (hn : ∀ j, j < k -> ∀ b, l[j]? = some b -> p b = false) (hk : l.length <= k) : l.find? p = none := by
 rw [List.find?_eq_none]
 intro x hx
 obtain ⟨j, hj, e⟩ := List.mem_iff_getElem.1 hx
 rw [hn j (by omega) x (by rw [List.getElem?_eq_getElem hj, e])]
 simp
theorem none_snoc {α : Type} {p : α -> Bool} {l : List α} {k : Nat} {a : α} (h : ∀ j, j < k -> ∀ b, l[j]? = some b -> p b = false) (hk : l[k]? = some a) (ha : p a = false) : ∀ j, j < k + 1 -> ∀ b, l[j]? = some b -> p b = false := by
 intro j hj b hb
 by_cases e : j = k
 . subst e; rw [hk] at hb; injection hb with hb; exact hb ▸ ha
 . exact h j (by omega) b hb
set_option maxHeartbeats 2000000 in
theorem l6Open_any (lo hi n c : Nat) (A : Option Addr) (rs : List RecD) (q : Int) (w : World) (h : Slc w lo hi 7 A n c (recs rs)) (hn : n <= 1048576) :
   Calls Try.prog 101 #[.slice A n c, .int .i64 q] w λ e w' => e = .returned (.int .i64 (posI (openAt rs q))) /\ w' = w := by
 have hl := Lib.hid h.recLen
 go_enter Try.func101, Try.ntmps101
 go_wp2
 go_loop [5] (λ i => ∃ k : Nat, k <= n /\ i = .int .i64 k /\ ∀ j, j < k -> ∀ b, rs[j]? = some b -> openP q b = false) (λ i => n - (intOf i).toNat)
 case atStart => exact ⟨0, Nat.zero_le _, rfl, λ j hj => absurd hj (by omega)⟩
 case round =>
   obtain ⟨k, hk, rfl, hcs⟩ := hrel
   have HC := Lib.hid hcs
   clear hcs
   by_cases hlt : k < n
   . obtain ⟨b, off, d, hA, _, _, h3, hxk, hv0, hv1, hv2, hv3, hv4, hv5, hv6⟩ := h.rec7 hlt
     subst hA
     have HX := Lib.hid hxk
     clear hxk h hv1 hv2 hv3 hv4 hv5 h3
     have i0 : (0 : Int) <= (k : Int) := by omega
     have i1 : (k : Int) < (n : Int) := by omega
     cases hq : (d.c == q)
     . have HP := Lib.hid (show openP q d = false by unfold openP; rw [hq]; rfl)
       go_wp2
       go_round
       case rel => exact ⟨k + 1, by omega, by go_num, none_snoc HC.out HX.out HP.out⟩
       case measure => simp [intOf]; omega
     . cases hd : (d.e.toList == [111, 112, 101, 110])
       . have HP := Lib.hid (show openP q d = false by unfold openP isOpen; rw [hq, hd]; rfl)
         go_wp2
         go_round
         case rel => exact ⟨k + 1, by omega, by go_num, none_snoc HC.out HX.out HP.out⟩
         case measure => simp [intOf]; omega
       . have HP := Lib.hid (show openP q d = true by unfold openP isOpen; rw [hq, hd]; rfl)
         go_wp2
         go_ret
         exact ⟨ret_int (by unfold openAt; rw [findIdx_at HX.out HP.out HC.out]; rfl), rfl⟩
   . have e : k = n := by omega
     subst e
     clear h
     go_wp2
     go_ret
     exact ⟨ret_int (by unfold openAt; rw [findIdx_no HC.out (by rw [hl.out]; exact Nat.le_refl _)]; rfl), rfl⟩
set_option maxHeartbeats 2000000 in
theorem l6Talks_any (lo hi n c : Nat) (A : Option Addr) (rs : List RecD) (q : Int) (w : World) (h : Slc w lo hi 7 A n c (recs rs)) (hn : n <= 1048576) :
   Calls Try.prog 105 #[.slice A n c, .int .i64 q] w λ e w' => e = .returned (.int .i64 (talksF rs q)) /\ w' = w := by
 have hl := Lib.hid h.recLen
 go_enter Try.func105, Try.ntmps105
 go_wp2
 go_loop [5] (λ i => ∃ k : Nat, k <= n /\ i = .int .i64 k /\ ∀ j, j < k -> ∀ b, rs[j]? = some b -> talkP q b = false) (λ i => n - (intOf i).toNat)
 case atStart => exact ⟨0, Nat.zero_le _, rfl, λ j hj => absurd hj (by omega)⟩
 case round =>
   obtain ⟨k, hk, rfl, hcs⟩ := hrel
   have HC := Lib.hid hcs
   clear hcs
   by_cases hlt : k < n
   . obtain ⟨b, off, d, hA, _, _, h3, hxk, hv0, hv1, hv2, hv3, hv4, hv5, hv6⟩ := h.rec7 hlt
     subst hA
     have HX := Lib.hid hxk
     clear hxk h hv1 hv3 hv4 hv5 h3
     have i0 : (0 : Int) <= (k : Int) := by omega
     have i1 : (k : Int) < (n : Int) := by omega
     cases hq : (d.o == q)
     . have HP := Lib.hid (show talkP q d = false by unfold talkP; rw [hq]; rfl)
       go_wp2
       go_round
       case rel => exact ⟨k + 1, by omega, by go_num, none_snoc HC.out HX.out HP.out⟩
       case measure => simp [intOf]; omega
     . cases hd : (d.e.toList == [111, 112, 101, 110])
       . have HP := Lib.hid (show talkP q d = false by unfold talkP isOpen; rw [hq, hd]; rfl)
         go_wp2
         go_round
         case rel => exact ⟨k + 1, by omega, by go_num, none_snoc HC.out HX.out HP.out⟩
         case measure => simp [intOf]; omega
       . have HP := Lib.hid (show talkP q d = true by unfold talkP isOpen; rw [hq, hd]; rfl)
         go_wp2
         go_ret
         exact ⟨ret_int (by unfold talksF; rw [find_at HX.out HP.out HC.out]), rfl⟩
   . have e : k = n := by omega
     subst e
     clear h
     go_wp2
     go_ret
     exact ⟨ret_int (by unfold talksF; rw [find_no HC.out (by rw [hl.out]; exact Nat.le_refl _)]), rfl⟩
set_option maxHeartbeats 2000000 in
theorem l6Find_any (lo hi n c : Nat) (A : Option Addr) (xs : List CallD) (q : Int) (w : World) (h : Slc w lo hi 2 A n c (calls xs)) (hn : n <= 1048576) :
   Calls Try.prog 102 #[.slice A n c, .int .i64 q] w λ e w' => e = .returned (.int .i64 (posI (findC6 xs q))) /\ w' = w := by
 have hl := Lib.hid h.callsLen
 go_enter Try.func102, Try.ntmps102
 go_wp2
 go_loop [5] (λ i => ∃ k : Nat, k <= n /\ i = .int .i64 k /\ ∀ j, j < k -> ∀ b, xs[j]? = some b -> (b.c == q) = false) (λ i => n - (intOf i).toNat)
 case atStart => exact ⟨0, Nat.zero_le _, rfl, λ j hj => absurd hj (by omega)⟩
 case round =>
   obtain ⟨k, hk, rfl, hcs⟩ := hrel
   have HC := Lib.hid hcs
   clear hcs
   by_cases hlt : k < n
   . obtain ⟨b, off, d, hA, _, _, h3, hxk, hv0, hv1⟩ := h.callsAt hlt
     subst hA
     have HX := Lib.hid hxk
     clear hxk h hv1 h3
     have i0 : (0 : Int) <= (k : Int) := by omega
     have i1 : (k : Int) < (n : Int) := by omega
     cases hq : (d.c == q)
     . have HP := Lib.hid hq
       go_wp2
       go_round
       case rel => exact ⟨k + 1, by omega, by go_num, none_snoc HC.out HX.out HP.out⟩
       case measure => simp [intOf]; omega
     . have HP := Lib.hid hq
       go_wp2
       go_ret
       exact ⟨ret_int (by unfold findC6; rw [findIdx_at HX.out HP.out HC.out]; rfl), rfl⟩
   . have e : k = n := by omega
     subst e
     clear h
     go_wp2
     go_ret
     exact ⟨ret_int (by unfold findC6; rw [findIdx_no HC.out (by rw [hl.out]; exact Nat.le_refl _)]; rfl), rfl⟩
def NewRow (E s : Nat) (w : World) (m : Nat) (xs : List Value) (v : Value) (w' : World) : Prop := ∃ g cp, v = .slice (some ⟨g, 0, none⟩) m cp /\ w'.ownsRow w.heap.size E s (.slice (some ⟨g, 0, none⟩) m cp) m xs /\ Below w.heap.size w w'
theorem calls_snoc (bs : List CallD) (b : CallD) : calls (bs ++ [b]) = calls bs ++ b.cells := by simp [calls]
theorem info_call6 : (Try.prog.info? 140).map (λ i => (i.zero, i.size, i.bytes)) = some (some (.agg #[.int .i64 0, .int .i64 0]), 2, 16) := by kernel_rfl
theorem filter_succ {xs : List CallD} {k : Nat} {d : CallD} (q : Int) (h : xs[k]? = some d) : withoutF (xs.take (k + 1)) q = withoutF (xs.take k) q ++ (if d.c != q then [d] else []) := by
 unfold withoutF
 rw [List.take_add_one, h, List.filter_append]
 congr 1
 simp [List.filter_cons]
set_option maxHeartbeats 4000000 in
set_option maxRecDepth 20000 in
theorem l6Without_any (lo hi n c : Nat) (A : Option Addr) (xs : List CallD) (q : Int) (w : World) (h : Slc w lo hi 2 A n c (calls xs)) (hn : n <= 100000) :
   Calls Try.prog 106 #[.slice A n c, .int .i64 q] w λ e w' => ∃ v, e = .returned v /\ NewRow 140 2 w (withoutF xs q).length (calls (withoutF xs q)) v w' := by
 have hl := Lib.hid h.callsLen
 obtain ⟨i0, hi0, hz0, hz1, hz2⟩ := info_parts info_call6
 have HI := Lib.hid (And.intro hi0 (And.intro hz0 (And.intro hz1 hz2)))
 clear hi0 hz0 hz1 hz2
 go_enter Try.func106, Try.ntmps106
 go_wp2
 go_loopw [5, 6] (λ v i wr => ∃ (k g L cl : Nat), k <= n /\ i = .int .i64 k /\ L = (withoutF (xs.take k) q).length /\ v = .slice (some ⟨g, 0, none⟩) L cl /\ Below w.heap.size w wr /\ wr.ownsRow w.heap.size 140 2 (.slice (some ⟨g, 0, none⟩) L cl) L (calls (withoutF (xs.take k) q))) (λ _ i _ => n - (intOf i).toNat)
 case atStart => exact ⟨0, w.heap.size, 0, 0, Nat.zero_le _, rfl, rfl, rfl, below_al (Below.refl _ _) _, row_empty (Nat.le_refl _) (heap_alloc_new _ _)⟩
 case round =>
   obtain ⟨k, g, L, cl, hk, rfl, hL, rfl, B, hown⟩ := hrel
   have HL := Lib.hid hL
   have HOW := Lib.hid hown
   have HB := Lib.hid B
   have hzb := B.size
   have hlen : L <= k := by rw [hL]; unfold withoutF; exact Nat.le_trans (List.length_filter_le _ _) (by simp; omega)
   clear hL hown
   by_cases hlt : k < n
   . obtain ⟨b, off, d, hA, _, _, h3, hxk, hv0, hv1⟩ := (h.below B).callsAt hlt
     subst hA
     have HF := Lib.hid (filter_succ q hxk)
     clear hxk h h3 B
     have i0' : (0 : Int) <= (k : Int) := by omega
     have i1 : (k : Int) < (n : Int) := by omega
     cases hq : (d.c != q)
     . rw [hq] at HF
       have HN := Lib.hid (show withoutF (xs.take (k + 1)) q = withoutF (xs.take k) q by rw [HF.out]; simp)
       go_wp2
       go_roundw
       case rel => exact ⟨k + 1, g, L, cl, by omega, by go_num, by rw [HN.out]; exact HL.out, rfl, HB.out, by rw [HN.out]; exact HOW.out⟩
       case measure => simp [intOf]; omega
     . rw [hq] at HF
       have HN := Lib.hid (show withoutF (xs.take (k + 1)) q = withoutF (xs.take k) q ++ [d] by rw [HF.out]; simp)
       obtain ⟨hi0, hz0, hz1, hz2⟩ := HI.out
       have HH := Lib.hid hi0
       clear hi0
       go_wp2_with (at_builtin; refine wpList_app _ rfl (.tmp 21) (.tmp 26) 118 rfl w.heap.size 140 i0 (.agg #[.int .i64 0, .int .i64 0]) 2 16 Try.underlying118 HH.out hz0 hz1 hz2 rfl (by decide) (.slice (some ⟨g, 0, none⟩) L cl) L (calls (withoutF (xs.take k) q)) rfl (row_keep HOW.out ?c1) (by simp) ⟨_, 0, none⟩ 1 1 (CallD.cells d) rfl rfl ?c2 (by intro u hu; simp [CallD.cells] at hu; rcases hu with rfl | rfl <;> rfl) ?c5 ?c6 ?c7 ?_; (case c1 => exact λ b hb => Below.heap_alloc _ _ b hb); (case c2 => exact World.news_of_block (cs := (CallD.cells d).toArray) (heap_new' _ _ (by simp))); (case c5 => unfold maxLen; omega); (case c6 => omega); (case c7 => (simp; omega)); intro g1 c1 w1 hown1 hgr1 B1; have HO1 := Lib.hid hown1; have HB1 := Lib.hid B1; clear hown1 hgr1 B1)
       go_roundw
       case rel =>
         refine ⟨k + 1, g1, L + 1, c1, by omega, by go_num, by rw [HN.out, HL.out]; simp, rfl, (below_al HB.out _).trans HB1.out, ?_⟩
         rw [HN.out, calls_snoc]; exact HO1.out
       case measure => simp [intOf]; omega
   . have e : k = n := by omega
     subst e
     have HT := Lib.hid (show xs.take k = xs by rw [List.take_of_length_le (by rw [hl.out]; exact Nat.le_refl _)])
     clear h B
     go_wp2
     go_ret
     refine ⟨_, rfl, g, cl, by rw [HL.out, HT.out]; rfl, ?_, HB.out⟩
     have := HOW.out
     rw [HL.out, HT.out] at this
     exact this
end Go.Proofs.Ytjcpjijihajopaa
namespace Go.Proofs.Ytjcpjijihajopaa
open Go.RowKit
section
variable {P : Program} (w : World)
theorem run_app2 (t ty : TypeId) (base : Nat) (e : TypeId) (i : TypeInfo) (z : Value) (size bytes : Nat) (ht : P.underlying t = some (.slice e)) (hi : P.info? e = some i) (hz : i.zero = some z)
   (hsize : i.size = size) (hby : i.bytes = bytes) (hzs : z.cells.size = size) (hsz : 0 < size)
   (gv cv n : Nat) (xs : List Value) (hown : w.ownsRow base e size (.slice (some ⟨gv, 0, none⟩) n cv) n xs)
   (ad : Addr) (m c : Nat) (news : List Value) (hl : news.length = m * size) (hnews : ∀ j u, news[j]? = some u -> w.cell? (ad.add j) = some u) (h1 : ∀ u ∈ news, u.oneCell' = true)
   (h63 : n + m <= maxLen) (hbytes : (n + m) * bytes <= 140737488355328) (hbase : base <= w.heap.size) :
   ∃ g cap w', (Builtin.append_ #[t, t] ty #[.slice (some ⟨gv, 0, none⟩) n cv, .slice (some ad) m c]).run P w = .ok (.slice (some ⟨g, 0, none⟩) (n + m) cap) w' /\
     w'.ownsRow base e size (.slice (some ⟨g, 0, none⟩) (n + m) cap) (n + m) (xs ++ news) /\ w.grownBy w' (some gv) /\ Below base w w' /\ (g = gv \/ g = w.heap.size) := by
 obtain ⟨v', w', hr, h2, h3, h4, h5⟩ := run_append_own_at (P := P) w base t ty e i z size bytes ht hi hz hsize hby hzs hsz _ n xs hown ad m c news hl hnews h1 h63 hbytes hbase
 obtain ⟨g, cap, rfl⟩ := row_some h2 (λ h => by have := (h4.1 h).1; cases this)
 refine ⟨g, cap, w', hr, h2, h3, row_below hown h3 hbase, ?_⟩
 rcases h5 with h5 | h5
 . exact .inl (by simpa [Value.ownBlock] using h5)
 . exact .inr (by simpa [Value.ownBlock] using h5)
theorem wp_app2 {o : Oper} {a : Act} {K : Act -> World -> Prop} {Q : Exit -> Act -> World -> Prop} (s x : Operand) (t : TypeId)
   (ho : o.op = .call { callee := .builtin .append, args := #[s, x], argTypes := #[t, t] })
   (base : Nat) (e : TypeId) (i : TypeInfo) (z : Value) (size bytes : Nat) (ht : P.underlying t = some (.slice e)) (hi : P.info? e = some i) (hz : i.zero = some z)
   (hsize : i.size = size) (hby : i.bytes = bytes) (hzs : z.cells.size = size) (hsz : 0 < size)
   (gv cv n : Nat) (xs : List Value) (hs : a.eval s = .slice (some ⟨gv, 0, none⟩) n cv) (hown : w.ownsRow base e size (.slice (some ⟨gv, 0, none⟩) n cv) n xs)
   (ad : Addr) (m c : Nat) (news : List Value) (hx : a.eval x = .slice (some ad) m c) (hl : news.length = m * size) (hnews : ∀ j u, news[j]? = some u -> w.cell? (ad.add j) = some u) (h1 : ∀ u ∈ news, u.oneCell' = true)
   (h63 : n + m <= maxLen) (hbytes : (n + m) * bytes <= 140737488355328) (hbase : base <= w.heap.size)
   (h : ∀ g cap w', w'.ownsRow base e size (.slice (some ⟨g, 0, none⟩) (n + m) cap) (n + m) (xs ++ news) -> w.grownBy w' (some gv) -> Below base w w' -> (g = gv \/ g = w.heap.size) -> K (a.put o.dst (.slice (some ⟨g, 0, none⟩) (n + m) cap)) w') : o.wp P a w K Q := by
 obtain ⟨g, cap, w', hr, h2, h3, h4, h5⟩ := run_app2 (P := P) w t o.type base e i z size bytes ht hi hz hsize hby hzs hsz gv cv n xs hown ad m c news hl hnews h1 h63 hbytes hbase
 unfold Oper.wp execOp
 simp only [ho, resolve, invoke, builtin, Sem.run_bind, Sem.run_pure, Result.andThen_ok, List.map_toArray, List.map_cons, List.map_nil, hs, hx, hr]
 exact h g cap w' h2 h3 h4 h5
theorem wpList_app2 {ops : Array Oper} {rest : List Oper} {o : Oper} {a : Act} {Q : Exit -> Act -> World -> Prop} (hgd : o.guard = none) (s x : Operand) (t : TypeId)
   (ho : o.op = .call { callee := .builtin .append, args := #[s, x], argTypes := #[t, t] })
   (base : Nat) (e : TypeId) (i : TypeInfo) (z : Value) (size bytes : Nat) (ht : P.underlying t = some (.slice e)) (hi : P.info? e = some i) (hz : i.zero = some z)
   (hsize : i.size = size) (hby : i.bytes = bytes) (hzs : z.cells.size = size) (hsz : 0 < size)
   (gv cv n : Nat) (xs : List Value) (hs : a.eval s = .slice (some ⟨gv, 0, none⟩) n cv) (hown : w.ownsRow base e size (.slice (some ⟨gv, 0, none⟩) n cv) n xs)
   (ad : Addr) (m c : Nat) (news : List Value) (hx : a.eval x = .slice (some ad) m c) (hl : news.length = m * size) (hnews : ∀ j u, news[j]? = some u -> w.cell? (ad.add j) = some u) (h1 : ∀ u ∈ news, u.oneCell' = true)
   (h63 : n + m <= maxLen) (hbytes : (n + m) * bytes <= 140737488355328) (hbase : base <= w.heap.size)
   (h : ∀ g cap w', w'.ownsRow base e size (.slice (some ⟨g, 0, none⟩) (n + m) cap) (n + m) (xs ++ news) -> w.grownBy w' (some gv) -> Below base w w' -> (g = gv \/ g = w.heap.size) -> wpList P ops Q rest (a.put o.dst (.slice (some ⟨g, 0, none⟩) (n + m) cap)) w') : wpList P ops Q (o :: rest) a w :=
 wpList_plain hgd λ _ hK => wp_app2 w s x t ho base e i z size bytes ht hi hz hsize hby hzs hsz gv cv n xs hs hown ad m c news hx hl hnews h1 h63 hbytes hbase λ g cap w' h2 h3 h4 h5 => hK _ _ (h g cap w' h2 h3 h4 h5)
end
end Go.Proofs.Ytjcpjijihajopaa
namespace Go.Proofs.Ytjcpjijihajopaa
open Go.RowKit
def txt (l : List UInt8) : Value := .string ⟨l.toArray⟩
def txts (ss : List (List UInt8)) : List Value := ss.map txt
end Go.Proofs.Ytjcpjijihajopaa
namespace Go.Proofs.Ytjcpjijihajopaa
open Go.RowKit
structure RoomV where
 gR : Nat
 cR : Nat
 gW : Nat
 cW : Nat
 gB : Nat
 cB : Nat
 gL : Nat
 cL : Nat
abbrev RoomV.sR (v : RoomV) (r : RoomD) : Value := .slice (some ⟨v.gR, 0, none⟩) r.recs.length v.cR
abbrev RoomV.sW (v : RoomV) (r : RoomD) : Value := .slice (some ⟨v.gW, 0, none⟩) r.wait.length v.cW
abbrev RoomV.sB (v : RoomV) (r : RoomD) : Value := .slice (some ⟨v.gB, 0, none⟩) r.back.length v.cB
abbrev RoomV.sL (v : RoomV) (r : RoomD) : Value := .slice (some ⟨v.gL, 0, none⟩) r.log.length v.cL
abbrev roomA (v : RoomV) (r : RoomD) : Array Value := #[.int .i64 r.o.ln, .int .i64 r.o.op, .int .i64 r.o.pt, .int .i64 r.clk, v.sR r, v.sW r, v.sB r, v.sL r]
abbrev roomO (v : RoomV) (r : RoomD) : Obj := .cells (roomA v r) 121
structure RoomOk (w : World) (lo : Nat) (v : RoomV) (r : RoomD) : Prop where
 rc : w.ownsRow lo 50 7 (v.sR r) r.recs.length (recs r.recs)
 wt : w.ownsRow lo 140 2 (v.sW r) r.wait.length (calls r.wait)
 bk : w.ownsRow lo 140 2 (v.sB r) r.back.length (calls r.back)
 lg : w.ownsRow lo 9 1 (v.sL r) r.log.length (txts r.log)
 ap : v.gR ≠ v.gW /\ v.gR ≠ v.gB /\ v.gR ≠ v.gL /\ v.gW ≠ v.gB /\ v.gW ≠ v.gL /\ v.gB ≠ v.gL
structure Turn (v : RoomV) (w w' : World) : Prop where
 os : w'.os = w.os
 tape : w'.tape = w.tape
 output : w'.output = w.output
 size : w.heap.size <= w'.heap.size
 block : ∀ b, b < w.heap.size -> b ≠ v.gR -> b ≠ v.gB -> w'.heap[b]? = w.heap[b]?
structure Moved (n : Nat) (v v' : RoomV) : Prop where
 r : v'.gR = v.gR \/ n <= v'.gR
 w : v'.gW = v.gW \/ n <= v'.gW
 b : v'.gB = v.gB \/ n <= v'.gB
 l : v'.gL = v.gL
section
variable {w w' w'' : World} {lo : Nat} {v v' v'' : RoomV} {r : RoomD}
theorem Turn.of_below (v : RoomV) (h : Below w.heap.size w w') : Turn v w w' := ⟨h.os, h.tape, h.output, h.size, λ b hb _ _ => h.block b hb⟩
theorem Turn.trans {n : Nat} (h : Turn v w w') (k : Turn v' w' w'') (m : Moved n v v') (hn : w.heap.size <= n) : Turn v w w'' :=
 ⟨k.os.trans h.os, k.tape.trans h.tape, k.output.trans h.output, Nat.le_trans h.size k.size, λ b hb h1 h2 => (k.block b (Nat.lt_of_lt_of_le hb h.size) (λ e => by rcases m.r with x | x <;> omega) (λ e => by rcases m.b with x | x <;> omega)).trans (h.block b hb h1 h2)⟩
theorem Turn.same (h : Turn v w w') (k : Turn v w' w'') : Turn v w w'' :=
 ⟨k.os.trans h.os, k.tape.trans h.tape, k.output.trans h.output, Nat.le_trans h.size k.size, λ b hb h1 h2 => (k.block b (Nat.lt_of_lt_of_le hb h.size) h1 h2).trans (h.block b hb h1 h2)⟩
theorem Moved.refl (n : Nat) (v : RoomV) : Moved n v v := ⟨.inl rfl, .inl rfl, .inl rfl, rfl⟩
theorem Moved.trans {n m : Nat} (h : Moved n v v') (k : Moved m v' v'') (hm : n <= m) : Moved n v v'' :=
 ⟨k.r.elim (λ e => h.r.imp (λ x => e.trans x) (λ x => by omega)) (λ x => .inr (by omega)), k.w.elim (λ e => h.w.imp (λ x => e.trans x) (λ x => by omega)) (λ x => .inr (by omega)),
  k.b.elim (λ e => h.b.imp (λ x => e.trans x) (λ x => by omega)) (λ x => .inr (by omega)), k.l.trans h.l⟩
theorem RoomOk.keep (h : RoomOk w lo v r) (k : ∀ b, b < w.heap.size -> w'.heap[b]? = w.heap[b]?) : RoomOk w' lo v r := ⟨row_keep h.rc k, row_keep h.wt k, row_keep h.bk k, row_keep h.lg k, h.ap⟩
theorem RoomOk.below (h : RoomOk w lo v r) (k : Below w.heap.size w w') : RoomOk w' lo v r := h.keep λ b hb => k.block b hb
theorem RoomOk.alloc (h : RoomOk w lo v r) (o : Obj) : RoomOk (w.alloc o) lo v r := h.keep λ b hb => Below.heap_alloc w o b hb
theorem RoomOk.lts (h : RoomOk w lo v r) : lo <= v.gR /\ v.gR < w.heap.size /\ lo <= v.gW /\ v.gW < w.heap.size /\ lo <= v.gB /\ v.gB < w.heap.size /\ lo <= v.gL /\ v.gL < w.heap.size :=
 ⟨(h.rc.lt _ rfl).1, (h.rc.lt _ rfl).2, (h.wt.lt _ rfl).1, (h.wt.lt _ rfl).2, (h.bk.lt _ rfl).1, (h.bk.lt _ rfl).2, (h.lg.lt _ rfl).1, (h.lg.lt _ rfl).2⟩
theorem RoomOk.slcR (h : RoomOk w lo v r) : Slc w lo w.heap.size 7 (some ⟨v.gR, 0, none⟩) r.recs.length v.cR (recs r.recs) := row_slc h.rc (by decide)
theorem RoomOk.slcW (h : RoomOk w lo v r) : Slc w lo w.heap.size 2 (some ⟨v.gW, 0, none⟩) r.wait.length v.cW (calls r.wait) := row_slc h.wt (by decide)
theorem RoomOk.slcB (h : RoomOk w lo v r) : Slc w lo w.heap.size 2 (some ⟨v.gB, 0, none⟩) r.back.length v.cB (calls r.back) := row_slc h.bk (by decide)
theorem RoomOk.clock (h : RoomOk w lo v r) (k : Int) : RoomOk w lo v { r with clk := k } := ⟨h.rc, h.wt, h.bk, h.lg, h.ap⟩
theorem RoomOk.newW {m g c : Nat} {xs : List CallD} (h : RoomOk w lo v r) (hk : ∀ b, b < w.heap.size -> w'.heap[b]? = w.heap[b]?) (ho : w'.ownsRow lo 140 2 (.slice (some ⟨g, 0, none⟩) m c) m (calls xs)) (hm : m = xs.length) (hg : w.heap.size <= g) :
   RoomOk w' lo { v with gW := g, cW := c } { r with wait := xs } := by
 have l := h.lts
 have k := h.keep hk
 subst hm
 exact ⟨k.rc, ho, k.bk, k.lg, by have := h.ap; simp only; omega⟩
theorem RoomOk.newB {m g c : Nat} {xs : List CallD} (h : RoomOk w lo v r) (hk : ∀ b, b < w.heap.size -> w'.heap[b]? = w.heap[b]?) (ho : w'.ownsRow lo 140 2 (.slice (some ⟨g, 0, none⟩) m c) m (calls xs)) (hm : m = xs.length) (hg : w.heap.size <= g) :
   RoomOk w' lo { v with gB := g, cB := c } { r with back := xs } := by
 have l := h.lts
 have k := h.keep hk
 subst hm
 exact ⟨k.rc, k.wt, ho, k.lg, by have := h.ap; simp only; omega⟩
theorem RoomOk.appB {m g c : Nat} {x : CallD} (h : RoomOk w lo v r) (hg : w.grownBy w' (some v.gB)) (ho : w'.ownsRow lo 140 2 (.slice (some ⟨g, 0, none⟩) m c) m (calls r.back ++ x.cells)) (hm : m = r.back.length + 1) (hw : g = v.gB \/ w.heap.size <= g) :
   RoomOk w' lo { v with gB := g, cB := c } { r with back := r.back ++ [x] } := by
 have l := h.lts
 have a := h.ap
 subst hm
 refine ⟨h.rc.kept hg (.inr (by simp [Value.ownBlock]; omega)), h.wt.kept hg (.inr (by simp [Value.ownBlock]; omega)), ?_, h.lg.kept hg (.inr (by simp [Value.ownBlock]; omega)), by simp only; omega⟩
 have e : calls (r.back ++ [x]) = calls r.back ++ x.cells := calls_snoc _ _
 simp only [RoomV.sB, List.length_append, List.length_cons, List.length_nil]
 rw [e]
 exact ho
theorem RoomOk.appR {m g c : Nat} {x : RecD} (h : RoomOk w lo v r) (hg : w.grownBy w' (some v.gR)) (ho : w'.ownsRow lo 50 7 (.slice (some ⟨g, 0, none⟩) m c) m (recs r.recs ++ x.cells)) (hm : m = r.recs.length + 1) (hw : g = v.gR \/ w.heap.size <= g) :
   RoomOk w' lo { v with gR := g, cR := c } { r with recs := r.recs ++ [x] } := by
 have l := h.lts
 have a := h.ap
 subst hm
 refine ⟨?_, h.wt.kept hg (.inr (by simp [Value.ownBlock]; omega)), h.bk.kept hg (.inr (by simp [Value.ownBlock]; omega)), h.lg.kept hg (.inr (by simp [Value.ownBlock]; omega)), by simp only; omega⟩
 have e : recs (r.recs ++ [x]) = recs r.recs ++ x.cells := by simp [recs]
 simp only [RoomV.sR, List.length_append, List.length_cons, List.length_nil]
 rw [e]
 exact ho
theorem RoomOk.appL {m g c : Nat} {x : List UInt8} (h : RoomOk w lo v r) (hg : w.grownBy w' (some v.gL)) (ho : w'.ownsRow lo 9 1 (.slice (some ⟨g, 0, none⟩) m c) m (txts r.log ++ [.string ⟨x.toArray⟩])) (hm : m = r.log.length + 1) (hw : g = v.gL \/ w.heap.size <= g) :
   RoomOk w' lo { v with gL := g, cL := c } { r with log := r.log ++ [x] } := by
 have l := h.lts
 have a := h.ap
 subst hm
 refine ⟨h.rc.kept hg (.inr (by simp [Value.ownBlock]; omega)), h.wt.kept hg (.inr (by simp [Value.ownBlock]; omega)), h.bk.kept hg (.inr (by simp [Value.ownBlock]; omega)), ?_, by simp only; omega⟩
 have e : txts (r.log ++ [x]) = txts r.log ++ [.string ⟨x.toArray⟩] := by simp [txts, txt]
 simp only [RoomV.sL, List.length_append, List.length_cons, List.length_nil]
 rw [e]
 exact ho
end
theorem recs_modify {rs : List RecD} {i j : Nat} {d : RecD} {f : RecD -> RecD} {v : Value} (hd : rs[i]? = some d) (hj : j < 7) (hs : ∀ k, k < 7 -> k ≠ j -> (f d).cells[k]? = d.cells[k]?) (hv : (f d).cells[j]? = some v) : (recs rs).set (i * 7 + j) v = recs (rs.modify i f) := by
 apply List.ext_getElem?
 intro q
 obtain ⟨a, b, rfl, hb⟩ : ∃ a b, q = a * 7 + b /\ b < 7 := ⟨q / 7, q % 7, by omega, by omega⟩
 have g : ∀ (l : List RecD), (recs l)[a * 7 + b]? = (l[a]?).bind λ x => x.cells[b]? := λ l => flat_get RecD.cells (s := 7) (λ _ => rfl) l a b hb
 rw [List.getElem?_set, g, g, List.getElem?_modify]
 have hlen : (recs rs).length = rs.length * 7 := recs_len rs
 have hi := (List.getElem?_eq_some_iff.1 hd).1
 by_cases e : i * 7 + j = a * 7 + b
 . have e1 : i = a := by omega
   have e2 : j = b := by omega
   subst e1 e2
   rw [if_pos e, if_pos (by omega), hd]
   simp [hv]
 . rw [if_neg e]
   by_cases e1 : i = a
   . subst e1
     rw [hd]
     have := hs b hb (by omega)
     simp [this]
   . simp [e1]
end Go.Proofs.Ytjcpjijihajopaa
