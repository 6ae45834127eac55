/-
  eachRecord's sender: it defers Done and close, sends every record, and leaves.
-/
import Derived.Test.YtjcpjijihajopaaRecD
import Derived.Test.YtjcpjijihajopaaWg
import Derived.Test.YtjcpjijihajopaaFit
import Derived.Test.YtjcpjijihajopaaMt7
set_option linter.unusedSectionVars false
set_option linter.unusedSimpArgs false
set_option linter.unusedVariables false
namespace Go.Proofs.Ytjcpjijihajopaa
open Go.RowKit Go.Mt Go.Conc Go.Tt Go.Conc.Lib Go.ConcR.Gen
set_option linter.unusedVariables false
noncomputable def bodyEC : Code := (Try.f55.body).getD .skip
noncomputable def loopEC : Code := match bodyEC with | .seq _ (.seq _ (.seq _ (.block _ (.loop c)))) => c | _ => .skip
noncomputable def rEC0 : Code := match bodyEC with | .seq a _ => a | _ => .skip
noncomputable def rEC1 : Code := match bodyEC with | .seq _ (.seq a _) => a | _ => .skip
noncomputable def rEC2 : Code := match bodyEC with | .seq _ (.seq _ (.seq a _)) => a | _ => .skip
noncomputable def rEC3 : Code := match loopEC with | .seq a _ => a | _ => .skip
noncomputable def rEC4 : Code := match loopEC with | .seq _ (.seq _ (.seq (.block _ (.seq a _)) _)) => a | _ => .skip
noncomputable def rEC5 : Code := match loopEC with | .seq _ (.seq _ (.seq (.block _ (.seq _ a)) _)) => a | _ => .skip
noncomputable def rEC6 : Code := match loopEC with | .seq _ (.seq _ (.seq _ a)) => a | _ => .skip
theorem loopEC_eq : loopEC = .seq rEC3 (.seq (.cond (.tmp 9) .skip (.exit 0)) (.seq (.block 1 (.seq rEC4 rEC5)) rEC6)) := rfl
theorem bodyEC_eq : bodyEC = .seq rEC0 (.seq rEC1 (.seq rEC2 (.block 0 (.loop loopEC)))) := rfl
/-- What record number k is as a value. -/
def recVal (rs : List RecD) (k : Nat) : Value := ((rs[k]?).map RecD.val).getD undef
noncomputable def childCx (Wg c n : Nat) (val : Nat → Value) (Fin : Goroutine → World → Prop) (K : Pr) (St : Nat → Prop) : Cx PpL :=
  { p := Try.prog, gs := gsF, fs := fsF, ty := wgl.tWg, Wg := Wg, A := pipe c n val, Fin := Fin, main := false, base := [botF Try.prog], ds := ⟨[], .deferred, by simp⟩, K := K, St := St, I := IC wgl.tWg Wg c, pin := [(0, .pointer (some ⟨Wg, 0, none⟩))] }
/-- What the sender's ghost knows. -/
structure ChW (gc gv gr : Nat) (A : Option Addr) (n cap : Nat) (rs : List RecD) (w : World) : Prop where
  v : w.heap[gv]? = some (.cells #[.chan (some gc)] 76 (0, 1))
  r : w.heap[gr]? = some (.cells #[.slice A n cap] 25 (0, 1))
  s : Slc w 0 w.heap.size 7 A n cap (recs rs)
theorem ChW.keep {gc gv gr : Nat} {A : Option Addr} {n cap : Nat} {rs : List RecD} {w w' : World} (h : ChW gc gv gr A n cap rs w) (hb : Below w.heap.size w w') : ChW gc gv gr A n cap rs w' :=
  ⟨(blk_below hb h.v).1, (blk_below hb h.r).1, (h.s.below hb).wide (Nat.le_refl _) hb.size⟩
theorem recVal_vr {S : FuncId → Prop} {K R : Pr} {d : RecD} {v' : Value} (h : VR S K R d.val v') : v' = d.val := by
  unfold RecD.val at h ⊢
  cases h with
  | agg e h =>
    rename_i xs'
    obtain ⟨l⟩ := xs'
    have h0 := h 0
    have h1 := h 1
    have h2 := h 2
    have h3 := h 3
    have h4 := h 4
    have h5 := h 5
    have h6 := h 6
    simp only [List.size_toArray, List.length_cons, List.length_nil] at e
    match l, e with
    | [a0, a1, a2, a3, a4, a5, a6], _ =>
      simp only [List.getElem?_toArray, List.getElem?_cons_zero, List.getElem?_cons_succ, Option.some.injEq] at h0 h1 h2 h3 h4 h5 h6
      cases h0 _ _ rfl rfl; cases h1 _ _ rfl rfl; cases h2 _ _ rfl rfl; cases h3 _ _ rfl rfl; cases h4 _ _ rfl rfl; cases h5 _ _ rfl rfl; cases h6 _ _ rfl rfl
      rfl
section
variable {Q : Exit → Go.Act → World → Prop} {u0 u1 u2 u3 u4 u5 u6 u7 u8 u9 u10 u11 u12 u13 u14 : Value} {w : World}
set_option maxHeartbeats 1000000 in
theorem wpEC3 {k n : Nat} (hn : n ≤ 1048576) (hk : k ≤ n) (h : Q .normal ⟨#[u0, u1, u2, u3, u4, u5, u6, .int .i64 n, .int .i64 k, .bool (decide (k < n)), u10, u11, u12, u13, u14], []⟩ w) :
    Code.wp Try.prog rEC3 Q ⟨#[u0, u1, u2, u3, u4, u5, u6, .int .i64 n, .int .i64 k, u9, u10, u11, u12, u13, u14], []⟩ w := by
  simp only [rEC3, loopEC, bodyEC, Try.f55, Option.getD_some]
  go_wp2
  exact h
set_option maxHeartbeats 1000000 in
theorem wpEC6 {k n : Nat} (hn : n ≤ 1048576) (hk : k < n) (h : Q .normal ⟨#[u0, u1, u2, u3, u4, u5, u6, u7, .int .i64 (k + 1 : Nat), u9, u10, u11, u12, u13, .int .i64 (k + 1 : Nat)], []⟩ w) :
    Code.wp Try.prog rEC6 Q ⟨#[u0, u1, u2, u3, u4, u5, u6, u7, .int .i64 k, u9, u10, u11, u12, u13, u14], []⟩ w := by
  simp only [rEC6, loopEC, bodyEC, Try.f55, Option.getD_some]
  push_cast at h
  go_wp2
  exact h
set_option maxHeartbeats 1000000 in
theorem wpEC2 {gr n cap : Nat} {A : Option Addr} (hn : n ≤ 1048576) (hr : w.heap[gr]? = some (.cells #[.slice A n cap] 25 (0, 1))) (h : Q .normal ⟨#[u0, u1, .pointer (some ⟨gr, 0, none⟩), u3, u4, u5, .slice A n cap, .int .i64 n, .int .i64 0, u9, u10, u11, u12, u13, u14], []⟩ w) :
    Code.wp Try.prog rEC2 Q ⟨#[u0, u1, .pointer (some ⟨gr, 0, none⟩), u3, u4, u5, u6, u7, u8, u9, u10, u11, u12, u13, u14], []⟩ w := by
  have h0 := blk_cell hr 0
  simp only [rEC2, bodyEC, Try.f55, Option.getD_some]
  clear hr
  go_wp2
  exact h
set_option maxHeartbeats 1000000 in
theorem wpEC4 {b off k n cap : Nat} {d : RecD} (hn : n ≤ 1048576) (hc : n ≤ cap) (hcm : cap ≤ maxLen) (hk : k < n) (hd : RecAt w b (off + k * 7) d)
    (h : Q .normal ⟨#[u0, u1, u2, u3, .pointer (some ⟨w.heap.size, 0, none⟩), u5, .slice (some ⟨b, off, none⟩) n cap, .int .i64 n, .int .i64 k, u9, .pointer (some ⟨b, off + k * 7, none⟩), d.val, u12, u13, u14], []⟩ (w.alloc (.cells #[.int .i64 d.c, .int .i64 d.l, .int .i64 d.o, .int .i64 d.f, .int .i64 d.h, .int .i64 d.t, .string d.e] 50))) :
    Code.wp Try.prog rEC4 Q ⟨#[u0, u1, u2, u3, u4, u5, .slice (some ⟨b, off, none⟩) n cap, .int .i64 n, .int .i64 k, u9, u10, u11, u12, u13, u14], []⟩ w := by
  obtain ⟨h0, h1, h2, h3, h4, h5, h6⟩ := hd
  simp only [rEC4, loopEC, bodyEC, Try.f55, Option.getD_some]
  go_wp2
  exact h
end
theorem slc_tp {w : World} {lo hi s n c : Nat} {A : Option Addr} {xs : List Value} (h : Slc w lo hi s A n c xs) (T : Tape) (e : Nat) : Slc (Tt.tp w T e) lo hi s A n c xs := ⟨h.len, h.le, h.cap, h.at_⟩
theorem ChW.tp {gc gv gr : Nat} {A : Option Addr} {n cap : Nat} {rs : List RecD} {w : World} (h : ChW gc gv gr A n cap rs w) (T : Tape) (e : Nat) : ChW gc gv gr A n cap rs (Tt.tp w T e) := ⟨h.v, h.r, slc_tp h.s T e⟩
section
variable {Wg c n cap : Nat} {rs : List RecD} {A : Option Addr} {gc gv gr : Nat}
set_option maxHeartbeats 4000000 in
set_option maxRecDepth 100000 in
theorem each_child_loop (C : Cx PpL) (hp : C.p = Try.prog) (hgs : C.gs = gsF) (hfs : C.fs = fsF) (hA : C.A = pipe c n (recVal rs)) (hS : C.S = [0]) (hI : IOk C) (hK : C.K gc c) (hrs : rs.length = n) (hn : n ≤ 1048576) (hdone : ∀ tmps w, BO C (.sd n) ⟨55, tmps, [], true⟩ w) :
    ∀ (m k : Nat), k + m = n → ∀ (w : World) (u3 u4 u5 u9 u10 u11 u12 u13 u14 : Value), ChW gc gv gr A n cap rs w →
      BO C (.sd k) ⟨55, #[.nilFunc, .pointer (some ⟨gv, 0, none⟩), .pointer (some ⟨gr, 0, none⟩), u3, u4, u5, .slice A n cap, .int .i64 n, .int .i64 k, u9, u10, u11, u12, u13, u14], [.code loopEC, .inLoop loopEC, .inBlock 0], false⟩ w := by
  have F : Fit3 C.P C.fs := by unfold Cx.P; rw [hp, hgs, hfs]; exact fitF
  have fok : FnOk C.p 55 := ⟨_, by rw [hp]; exact Try.func55, .inl rfl⟩
  intro m
  induction m with
  | zero =>
    intro k hk w u3 u4 u5 u9 u10 u11 u12 u13 u14 hw
    obtain rfl : k = n := by omega
    rw [show Item.code loopEC = Item.code (.seq rEC3 (.seq (.cond (.tmp 9) .skip (.exit 0)) (.seq (.block 1 (.seq rEC4 rEC5)) rEC6))) from congrArg _ loopEC_eq]
    refine BO.seq hI ?_
    refine BO.piece F hI (by rw [hp, hfs, hgs]; kernel_rfl) fok (by rw [hS]; kernel_rfl) (fun T => ?_)
    rw [hp]
    refine wpEC3 hn (Nat.le_refl _) ⟨rfl, ?_⟩
    refine BO.seq hI ?_
    refine BO.cond hI (t := false) rfl (by simp [Go.Act.eval]) ?_
    exact BO.exit hI (k' := []) rfl (BO.fall hI (hdone _ _))
  | succ m ih =>
    intro k hk w u3 u4 u5 u9 u10 u11 u12 u13 u14 hw
    have hlt : k < n := by omega
    rw [show Item.code loopEC = Item.code (.seq rEC3 (.seq (.cond (.tmp 9) .skip (.exit 0)) (.seq (.block 1 (.seq rEC4 rEC5)) rEC6))) from congrArg _ loopEC_eq]
    refine BO.seq hI ?_
    refine BO.piece F hI (by rw [hp, hfs, hgs]; kernel_rfl) fok (by rw [hS]; kernel_rfl) (fun T => ?_)
    rw [hp]
    refine wpEC3 hn (by omega) ⟨rfl, ?_⟩
    replace hw := hw.tp T 0
    generalize Tt.tp w T 0 = w1 at hw ⊢
    refine BO.seq hI ?_
    refine BO.cond hI (t := true) rfl (by simp [Go.Act.eval, hlt]) ?_
    refine BO.skip hI ?_
    refine BO.seq hI ?_
    refine BO.block hI ?_
    refine BO.seq hI ?_
    obtain ⟨b, off, d, rfl, _, _, hb3, hdk, hd⟩ := hw.s.recAt hlt
    refine BO.piece F hI (by rw [hp, hfs, hgs]; kernel_rfl) fok (by rw [hS]; kernel_rfl) (fun T => ?_)
    rw [hp]
    replace hw := hw.tp T 0
    have hd' : RecAt (Tt.tp w1 T 0) b (off + k * 7) d := ⟨hd.c0, hd.c1, hd.c2, hd.c3, hd.c4, hd.c5, hd.c6⟩
    clear hd
    generalize Tt.tp w1 T 0 = w2 at hw hd' ⊢
    refine wpEC4 hn hw.s.le hw.s.cap hlt hd' ⟨rfl, ?_⟩
    generalize hcs : (#[.int .i64 d.c, .int .i64 d.l, .int .i64 d.o, .int .i64 d.f, .int .i64 d.h, .int .i64 d.t, .string d.e] : Array Value) = cs
    have hw3 := hw.keep (w' := w2.alloc (.cells cs 50)) (below_al (Below.refl _ _) _)
    have hr : (w2.alloc (.cells cs 50)).heap[w2.heap.size]? = some (.cells cs 50) := heap_alloc_new _ _
    generalize w2.heap.size = N at hr ⊢
    generalize w2.alloc (.cells cs 50) = w3 at hw3 hr ⊢
    clear hw hd'
    generalize hk0 : (Item.inBlock 1 :: Item.code rEC6 :: Item.inLoop loopEC :: [Item.inBlock 0]) = K0
    simp only [rEC5, loopEC, bodyEC, Try.f55, Option.getD_some]
    refine BO.regs hI [0, 1, 2] rfl ?_
    refine BO.op F hI (o := _) rfl rfl (by rw [hp, hfs, hgs]; kernel_rfl) (by intro s hs; rw [hS]; cases hs; decide) (fun T => ⟨.chan (some gc), Tt.tp w3 T 0, .inl ?_, ?_⟩)
    · rw [hp]
      exact exec_load1 (a := ⟨gv, 0, none⟩) rfl rfl (Try.isAgg76 _) (blk_cell (hw3.tp T 0).v 0)
    replace hw3 := hw3.tp T 0
    have hr' : (Tt.tp w3 T 0).heap[N]? = some (.cells cs 50) := hr
    clear hr
    generalize Tt.tp w3 T 0 = w4 at hw3 hr' ⊢
    refine BO.op F hI (o := _) rfl rfl (by rw [hp, hfs, hgs]; kernel_rfl) (by intro s hs; rw [hS]; cases hs; decide) (fun T => ⟨.agg cs, Tt.tp w4 T 0, .inl ?_, ?_⟩)
    · rw [hp]
      exact exec_loadRow (g := N) (T := 50) (fr := (0, 0)) rfl rfl hr' Try.underlying50 rfl (by rw [← hcs]; kernel_rfl)
    replace hw3 := hw3.tp T 0
    generalize Tt.tp w4 T 0 = w5 at hw3 ⊢
    have hact : C.A.act (.sd k) = .send c (fun v => v = recVal rs k) (fun _ => []) (fun _ => .sd (k + 1)) := by rw [hA]; show pipeAct c n (recVal rs) (.sd k) = _; simp only [pipeAct, hlt, if_true]
    refine BO.send hI (o := _) (g := gc) (l' := .sd (k + 1)) rfl rfl rfl rfl rfl hK rfl (by intro s hs; cases hs) hact (fun R v' hv => ⟨?_, rfl, rfl⟩) ?_
    · have hv2 : VR (SF C.fs) C.K R d.val v' := by rw [show d.val = .agg cs by rw [← hcs]; rfl]; exact hv
      rw [recVal_vr hv2]
      unfold recVal; rw [hdk]; rfl
    refine BO.regEnd hI ?_
    subst hk0
    refine BO.inBlock hI ?_
    refine BO.piece F hI (by rw [hp, hfs, hgs]; kernel_rfl) fok (by rw [hS]; kernel_rfl) (fun T => ?_)
    rw [hp]
    refine wpEC6 hn hlt ⟨rfl, ?_⟩
    refine BO.inLoop hI ?_
    exact ih (k + 1) (by omega) _ _ _ _ _ _ _ _ _ _ (hw3.tp T 0)
set_option maxHeartbeats 4000000 in
set_option maxRecDepth 100000 in
theorem each_child {Fin : Goroutine → World → Prop} {K : Pr} {St : Nat → Prop} (hK : K gc c) (hrs : rs.length = n) (hn : n ≤ 1048576) {w : World} (hw : ChW gc gv gr A n cap rs w) :
    BO (childCx Wg c n (recVal rs) Fin K St) (.sd 0) ⟨55, #[.nilFunc, .pointer (some ⟨gv, 0, none⟩), .pointer (some ⟨gr, 0, none⟩), undef, undef, undef, undef, undef, undef, undef, undef, undef, undef, undef, undef], [.code bodyEC], false⟩ w := by
  let C := childCx Wg c n (recVal rs) Fin K St
  have hI : IOk C := ic_ok rfl
  let d1 := dcall 56 #[.pointer (some ⟨Wg, 0, none⟩)]
  let d2 := closeD #[76] 0 #[false] c
  have hI1 : IOk (C.dfr d1) := hI.dfr d1
  have hI2 : IOk ((C.dfr d1).dfr d2) := hI1.dfr d2
  have F : Fit3 C.P C.fs := fitF
  have fok : FnOk C.p 55 := ⟨_, Try.func55, .inl rfl⟩
  show BO C _ _ _
  rw [bodyEC_eq]
  refine BO.seq hI ?_
  generalize hk0 : (Item.code (rEC1.seq (rEC2.seq (Code.block 0 loopEC.loop))) :: ([] : List Item)) = K0
  simp only [rEC0, bodyEC, Try.f55, Option.getD_some]
  refine BO.regs hI [0] rfl ?_
  refine BO.defer hI (d := d1) (o := _) rfl rfl rfl (fun R w W tmps' _ _ hpin W₁ => ?_) ?_
  · have h0 := hpin (0, .pointer (some ⟨Wg, 0, none⟩)) (by show _ ∈ [_]; simp)
    have := exec_deferF (p := C.p) (o := ⟨none, .defer { callee := .value (.func 56), args := #[.tmp 0], argTypes := #[86] }, 0, "l8_bills.go:68", #[], none⟩) (ρ := (Go.Act.mk tmps' C.ds.ds).eval) rfl rfl W₁
    simp only [List.map_toArray, List.map_cons, List.map_nil, Go.Act.eval] at this
    simp only at h0
    rw [h0] at this
    exact this
  refine BO.regEnd hI1 ?_
  subst hk0
  refine BO.seq hI1 ?_
  generalize hk0 : (Item.code (rEC2.seq (Code.block 0 loopEC.loop)) :: ([] : List Item)) = K0
  simp only [rEC1, bodyEC, Try.f55, Option.getD_some]
  refine BO.regs hI1 [0, 1] rfl ?_
  refine BO.op (C := C.dfr d1) F hI1 (o := _) rfl rfl (by kernel_rfl) (by intro s hs; cases hs; show (5 : Nat) ∉ ([0] : List Nat); decide) (fun T => ⟨.chan (some gc), Tt.tp w T 0, .inl ?_, ?_⟩)
  · exact exec_load1 (a := ⟨gv, 0, none⟩) rfl rfl (Try.isAgg76 _) (blk_cell (hw.tp T 0).v 0)
  replace hw := hw.tp T 0
  generalize Tt.tp w T 0 = w1 at hw ⊢
  refine BO.defer hI1 (d := d2) (o := _) rfl rfl rfl (fun R w W tmps' hrel ha _ W₁ => ?_) ?_
  · have h5 := ha.getD 5 (vr_undef (S := SF C.fs) (K := K) (R := R))
    have h5' : tmps'.getD 5 undef = .chan (some c) := chan_rel (C := C.dfr d1) hrel hK h5
    have := exec_deferC (p := C.p) (o := ⟨none, .defer { callee := .builtin .close, args := #[.tmp 5], argTypes := #[76] }, 0, "l8_bills.go:69", #[{ on := 0, ground := Ground.data }], none⟩) (ρ := (Go.Act.mk tmps' (C.dfr d1).ds.ds).eval) (c := c) rfl h5' W₁
    exact this
  refine BO.regEnd hI2 ?_
  subst hk0
  refine BO.seq hI2 ?_
  refine BO.piece (C := (C.dfr d1).dfr d2) F hI2 (by kernel_rfl) fok (by kernel_rfl) (fun T => ?_)
  replace hw := hw.tp T 0
  generalize Tt.tp w1 T 0 = w2 at hw ⊢
  refine wpEC2 hn hw.r ⟨rfl, ?_⟩
  refine BO.block hI2 ?_
  refine BO.loop hI2 ?_
  refine each_child_loop ((C.dfr d1).dfr d2) rfl rfl rfl rfl rfl hI2 hK hrs hn (fun tmps w => ?_) n 0 (by omega) _ _ _ _ _ _ _ _ _ _ hw
  intro R W m' τ hr hm ht hi
  obtain ⟨fn', tmps', todo', ret'⟩ := m'
  obtain rfl := hm.fn
  obtain rfl := hm.todo
  obtain rfl := hm.ret
  rw [fx_ret]
  have hi' : IC wgl.tWg Wg c R τ W := hi
  exact child_end wgLib (A := pipe c n (recVal rs)) (l := .sd n) (nx := .dn) (by show pipeAct c n _ (.sd n) = _; simp [pipeAct]) rfl (fun _ => trivial) Try.func55 rfl rfl hi'.pass hi'.live tmps' [] #[76] 0 #[false]
end
end Go.Proofs.Ytjcpjijihajopaa
