/-
  The law of BusyMinutes: its pieces.
-/
import Derived.Test.YtjcpjijihajopaaBusyJ
set_option linter.unusedSectionVars false
set_option linter.unusedSimpArgs false
set_option linter.unusedVariables false
namespace Go.Proofs.Ytjcpjijihajopaa
open Go.RowKit Go.Mt Go.Conc Go.Tt Go.Maps
set_option linter.unusedVariables false
noncomputable def bodyLB : Code := (Try.f3.body).getD .skip
noncomputable def rLB0 : Code := match bodyLB with | .seq a _ => a | _ => .skip
noncomputable def rLB1 : Code := match bodyLB with | .seq _ (.seq a _) => a | _ => .skip
noncomputable def rLB2 : Code := match bodyLB with | .seq _ (.seq _ (.seq a _)) => a | _ => .skip
noncomputable def rLB3 : Code := match bodyLB with | .seq _ (.seq _ (.seq _ (.seq (.seq a _) _))) => a | _ => .skip
noncomputable def rLB4 : Code := match bodyLB with | .seq _ (.seq _ (.seq _ (.seq (.seq _ (.cond _ (.seq a _) _)) _))) => a | _ => .skip
noncomputable def rLB5 : Code := match bodyLB with | .seq _ (.seq _ (.seq _ (.seq _ (.seq a _)))) => a | _ => .skip
noncomputable def rLB6 : Code := match bodyLB with | .seq _ (.seq _ (.seq _ (.seq _ (.seq _ (.seq a _))))) => a | _ => .skip
noncomputable def rLB7 : Code := match bodyLB with | .seq _ (.seq _ (.seq _ (.seq _ (.seq _ (.seq _ (.seq a _)))))) => a | _ => .skip
noncomputable def rLB8 : Code := match bodyLB with | .seq _ (.seq _ (.seq _ (.seq _ (.seq _ (.seq _ (.seq _ (.seq (.seq a _) _))))))) => a | _ => .skip
noncomputable def rLB10 : Code := match bodyLB with | .seq _ (.seq _ (.seq _ (.seq _ (.seq _ (.seq _ (.seq _ (.seq _ (.seq (.seq a _) _)))))))) => a | _ => .skip
noncomputable def rLB12 : Code := match bodyLB with | .seq _ (.seq _ (.seq _ (.seq _ (.seq _ (.seq _ (.seq _ (.seq _ (.seq _ (.seq a _))))))))) => a | _ => .skip
noncomputable def kLB9 : Code := match bodyLB with | .seq _ (.seq _ (.seq _ (.seq _ (.seq _ (.seq _ (.seq _ (.seq (.seq _ (.cond _ a _)) _))))))) => a | _ => .skip
noncomputable def kLB11 : Code := match bodyLB with | .seq _ (.seq _ (.seq _ (.seq _ (.seq _ (.seq _ (.seq _ (.seq _ (.seq (.seq _ (.cond _ a _)) _)))))))) => a | _ => .skip
theorem bodyLB_eq : bodyLB = .seq rLB0 (.seq rLB1 (.seq rLB2 (.seq (.seq rLB3 (.cond (.tmp 15) (.seq rLB4 .ret) .skip)) (.seq rLB5 (.seq rLB6 (.seq rLB7 (.seq (.seq rLB8 (.cond (.tmp 29) kLB9 .skip)) (.seq (.seq rLB10 (.cond (.tmp 34) kLB11 .skip)) (.seq rLB12 .ret))))))))) := rfl
section
variable {Q : Exit → Go.Act → World → Prop} {u0 u1 u2 u3 u4 u5 u6 u7 u8 u9 u10 u11 u12 u13 u14 u15 u16 u17 u18 u19 u20 u21 u22 u23 u24 u25 u26 u27 u28 u29 u30 u31 u32 u33 u34 : Value} {w : World} {A A' : Option Addr} {n cap n' cap' : Nat} {l q x y : Int} {rs : List RecD} {lo hi lo' hi' : Nat}
set_option maxHeartbeats 1000000 in
set_option maxRecDepth 20000 in
theorem wpLB0 (h : Q .normal ⟨#[u0, u1, u2, u3, u4, u5, .bool false, u7, u8, u9, u10, u11, u12, u13, u14, u15, u16, u17, u18, u19, u20, u21, u22, u23, u24, u25, u26, u27, u28, u29, u30, u31, u32, u33, u34], []⟩ w) : Code.wp Try.prog rLB0 Q ⟨#[u0, u1, u2, u3, u4, u5, u6, u7, u8, u9, u10, u11, u12, u13, u14, u15, u16, u17, u18, u19, u20, u21, u22, u23, u24, u25, u26, u27, u28, u29, u30, u31, u32, u33, u34], []⟩ w := by
  simp only [rLB0, bodyLB, Try.f3, Option.getD_some]
  go_wp2
  exact h
set_option maxHeartbeats 1000000 in
set_option maxRecDepth 20000 in
theorem wpLB1 (h : Q .normal ⟨#[u0, u1, u2, u3, u4, u5, u6, .int .i64 1048576, u8, u9, u10, u11, u12, u13, u14, u15, u16, u17, u18, u19, u20, u21, u22, u23, u24, u25, u26, u27, u28, u29, u30, u31, u32, u33, u34], []⟩ w) : Code.wp Try.prog rLB1 Q ⟨#[u0, u1, u2, u3, u4, u5, u6, u7, u8, u9, u10, u11, u12, u13, u14, u15, u16, u17, u18, u19, u20, u21, u22, u23, u24, u25, u26, u27, u28, u29, u30, u31, u32, u33, u34], []⟩ w := by
  simp only [rLB1, bodyLB, Try.f3, Option.getD_some]
  go_wp2
  exact h
set_option maxHeartbeats 1000000 in
set_option maxRecDepth 20000 in
theorem wpLB2 (hs : Slc w lo hi 7 A n cap (recs rs)) (hd : ∀ d ∈ rs, d.e.size ≤ maxLen) (h : ∀ u11 u12 u13 w', Below w.heap.size w w' → Q .normal ⟨#[.slice A n cap, u1, u2, u3, u4, u5, u6, .int .i64 (szRecN 1048576 n rs), u8, u9, u10, u11, u12, u13, u14, u15, u16, u17, u18, u19, u20, u21, u22, u23, u24, u25, u26, u27, u28, u29, u30, u31, u32, u33, u34], []⟩ w') : Code.wp Try.prog rLB2 Q ⟨#[.slice A n cap, u1, u2, u3, u4, u5, u6, .int .i64 1048576, u8, u9, u10, u11, u12, u13, u14, u15, u16, u17, u18, u19, u20, u21, u22, u23, u24, u25, u26, u27, u28, u29, u30, u31, u32, u33, u34], []⟩ w := by
  simp only [rLB2, bodyLB, Try.f3, Option.getD_some]
  have HH := Lib.hid h
  clear h
  go_wp2_with fail
  refine (szRecordS_any _ _ _ _ _ _ _ _ hs hd (by omega) (by omega)).mono ?_
  rintro e w1 ⟨rfl, b1⟩
  clear hs hd
  go_wp2
  exact HH.out _ _ _ _ b1
set_option maxHeartbeats 1000000 in
set_option maxRecDepth 20000 in
theorem wpLB3 (h : ∀ u14, Q .normal ⟨#[u0, u1, u2, u3, u4, u5, u6, .int .i64 x, u8, u9, u10, u11, u12, u13, u14, .bool (decide (x < 0)), u16, u17, u18, u19, u20, u21, u22, u23, u24, u25, u26, u27, u28, u29, u30, u31, u32, u33, u34], []⟩ w) : Code.wp Try.prog rLB3 Q ⟨#[u0, u1, u2, u3, u4, u5, u6, .int .i64 x, u8, u9, u10, u11, u12, u13, u14, u15, u16, u17, u18, u19, u20, u21, u22, u23, u24, u25, u26, u27, u28, u29, u30, u31, u32, u33, u34], []⟩ w := by
  simp only [rLB3, bodyLB, Try.f3, Option.getD_some]
  go_wp2
  exact h _
set_option maxHeartbeats 1000000 in
set_option maxRecDepth 20000 in
theorem wpLB4 (h : Q .normal ⟨#[u0, u1, u2, u3, u4, u5, .bool true, u7, u8, u9, u10, u11, u12, u13, u14, u15, u16, u17, u18, u19, u20, u21, u22, u23, u24, u25, u26, u27, u28, u29, u30, u31, u32, u33, u34], []⟩ w) : Code.wp Try.prog rLB4 Q ⟨#[u0, u1, u2, u3, u4, u5, u6, u7, u8, u9, u10, u11, u12, u13, u14, u15, u16, u17, u18, u19, u20, u21, u22, u23, u24, u25, u26, u27, u28, u29, u30, u31, u32, u33, u34], []⟩ w := by
  simp only [rLB4, bodyLB, Try.f3, Option.getD_some]
  go_wp2
  exact h
set_option maxHeartbeats 1000000 in
set_option maxRecDepth 20000 in
theorem wpLB5 (hs : Slc w lo hi 7 A n cap (recs rs)) (hn : n ≤ 1048576) (h : ∀ u16 u17 u18 u19 u20 w', Below w.heap.size w w' → Q .normal ⟨#[.slice A n cap, .int .i64 l, .int .i64 q, u3, u4, u5, u6, u7, .int .i64 (busyM rs l q), u9, u10, u11, u12, u13, u14, u15, u16, u17, u18, u19, u20, u21, u22, u23, u24, u25, u26, u27, u28, u29, u30, u31, u32, u33, u34], []⟩ w') : Code.wp Try.prog rLB5 Q ⟨#[.slice A n cap, .int .i64 l, .int .i64 q, u3, u4, u5, u6, u7, u8, u9, u10, u11, u12, u13, u14, u15, u16, u17, u18, u19, u20, u21, u22, u23, u24, u25, u26, u27, u28, u29, u30, u31, u32, u33, u34], []⟩ w := by
  simp only [rLB5, bodyLB, Try.f3, Option.getD_some]
  have HH := Lib.hid h
  clear h
  go_wp2_with fail
  refine (toRecordS_any _ _ _ _ _ _ _ hs hn).mono ?_
  rintro e w1 ⟨b, m, cs, rfl, hm, _, _, _, ho, b1⟩
  have hn1 : m ≤ 1048576 := by rw [hm, hs.recLen]; exact hn
  have hs1 := ho.slc
  clear hs ho hm
  go_wp2_with fail
  refine (spec_BusyMinutes _ _ _ _ _ _ _ _ _ hs1 hn1).mono ?_
  rintro e w2 ⟨rfl, b2⟩
  have B2 := below_step b1 b2
  clear hs1 b1 b2
  go_wp2
  exact HH.out _ _ _ _ _ _ B2
set_option maxHeartbeats 1000000 in
set_option maxRecDepth 20000 in
theorem wpLB6 (hs : Slc w lo hi 7 A n cap (recs rs)) (hn : n ≤ 1048576) (h : ∀ u21 u22 w' v, NewR w rs (.returned v) w' → Q .normal ⟨#[.slice A n cap, u1, u2, u3, u4, u5, u6, u7, u8, v, u10, u11, u12, u13, u14, u15, u16, u17, u18, u19, u20, u21, u22, u23, u24, u25, u26, u27, u28, u29, u30, u31, u32, u33, u34], []⟩ w') : Code.wp Try.prog rLB6 Q ⟨#[.slice A n cap, u1, u2, u3, u4, u5, u6, u7, u8, u9, u10, u11, u12, u13, u14, u15, u16, u17, u18, u19, u20, u21, u22, u23, u24, u25, u26, u27, u28, u29, u30, u31, u32, u33, u34], []⟩ w := by
  simp only [rLB6, bodyLB, Try.f3, Option.getD_some]
  have HH := Lib.hid h
  clear h
  go_wp2_with fail
  refine (toRecordS_any _ _ _ _ _ _ _ hs hn).mono ?_
  rintro e w1 hN
  obtain ⟨b, m, cs, rfl, h1⟩ := hN
  have HN := Lib.hid h1
  clear hs h1
  go_wp2
  exact HH.out _ _ _ _ ⟨b, m, cs, rfl, HN.out⟩
set_option maxHeartbeats 1000000 in
set_option maxRecDepth 20000 in
theorem wpLB8 (h : ∀ u27 u28, Q .normal ⟨#[u0, u1, u2, u3, u4, u5, u6, u7, .int .i64 x, u9, .int .i64 x, u11, u12, u13, u14, u15, u16, u17, u18, u19, u20, u21, u22, u23, u24, u25, u26, u27, u28, .bool false, u30, u31, u32, u33, u34], []⟩ w) : Code.wp Try.prog rLB8 Q ⟨#[u0, u1, u2, u3, u4, u5, u6, u7, .int .i64 x, u9, .int .i64 x, u11, u12, u13, u14, u15, u16, u17, u18, u19, u20, u21, u22, u23, u24, u25, u26, u27, u28, u29, u30, u31, u32, u33, u34], []⟩ w := by
  simp only [rLB8, bodyLB, Try.f3, Option.getD_some]
  go_wp2
  exact h _ _
set_option maxHeartbeats 1000000 in
set_option maxRecDepth 20000 in
theorem wpLB10 (hs : Slc w lo hi 7 A n cap (recs rs)) (hs' : Slc w lo' hi' 7 A' n' cap' (recs rs)) (hn : n ≤ 1048576) (h : ∀ u30 u31 u32 u33 w', Q .normal ⟨#[.slice A n cap, u1, u2, u3, u4, u5, u6, u7, u8, .slice A' n' cap', u10, u11, u12, u13, u14, u15, u16, u17, u18, u19, u20, u21, u22, u23, u24, u25, u26, u27, u28, u29, u30, u31, u32, u33, .bool false], []⟩ w') : Code.wp Try.prog rLB10 Q ⟨#[.slice A n cap, u1, u2, u3, u4, u5, u6, u7, u8, .slice A' n' cap', u10, u11, u12, u13, u14, u15, u16, u17, u18, u19, u20, u21, u22, u23, u24, u25, u26, u27, u28, u29, u30, u31, u32, u33, u34], []⟩ w := by
  simp only [rLB10, bodyLB, Try.f3, Option.getD_some]
  have HH := Lib.hid h
  clear h
  go_wp2_with fail
  refine (toRecordS_any _ _ _ _ _ _ _ hs hn).mono ?_
  rintro e w1 ⟨b, m, cs, rfl, hm, _, _, _, ho, b1⟩
  have hn1 : m ≤ 1048576 := by rw [hm, hs.recLen]; exact hn
  have hn' : n' ≤ 1048576 := by rw [← hs'.recLen, hs.recLen]; exact hn
  have hs1 := ho.slc
  have hs2 := hs'.below b1
  clear hs ho hs' hm
  go_wp2_with fail
  refine (eqRecordS_any _ _ _ _ _ _ _ _ _ _ _ _ _ hs2 hs1 hn' hn1).mono ?_
  rintro e w2 ⟨rfl, b2⟩
  rw [show (rs == rs) = true from beq_self_eq_true rs]
  clear hs1 hs2 b1 b2
  go_wp2
  exact HH.out _ _ _ _ _
set_option maxHeartbeats 1000000 in
set_option maxRecDepth 20000 in
theorem wpLB12 (h : Q .normal ⟨#[u0, u1, u2, u3, u4, u5, .bool true, u7, u8, u9, u10, u11, u12, u13, u14, u15, u16, u17, u18, u19, u20, u21, u22, u23, u24, u25, u26, u27, u28, u29, u30, u31, u32, u33, u34], []⟩ w) : Code.wp Try.prog rLB12 Q ⟨#[u0, u1, u2, u3, u4, u5, u6, u7, u8, u9, u10, u11, u12, u13, u14, u15, u16, u17, u18, u19, u20, u21, u22, u23, u24, u25, u26, u27, u28, u29, u30, u31, u32, u33, u34], []⟩ w := by
  simp only [rLB12, bodyLB, Try.f3, Option.getD_some]
  go_wp2
  exact h
end
end Go.Proofs.Ytjcpjijihajopaa
