/-
  The law of WaitedMinutes: its pieces.
-/
import Derived.Test.YtjcpjijihajopaaWaitJ
set_option linter.unusedSectionVars false
set_option linter.unusedSimpArgs false
set_option linter.unusedVariables false
namespace Go.Proofs.Ytjcpjijihajopaa
open Go.RowKit Go.Mt Go.Conc Go.Tt Go.Maps
set_option linter.unusedVariables false
noncomputable def bodyLW : Code := (Try.f4.body).getD .skip
noncomputable def rLW0 : Code := match bodyLW with | .seq a _ => a | _ => .skip
noncomputable def rLW1 : Code := match bodyLW with | .seq _ (.seq a _) => a | _ => .skip
noncomputable def rLW2 : Code := match bodyLW with | .seq _ (.seq _ (.seq a _)) => a | _ => .skip
noncomputable def rLW3 : Code := match bodyLW with | .seq _ (.seq _ (.seq _ (.seq (.seq a _) _))) => a | _ => .skip
noncomputable def rLW4 : Code := match bodyLW with | .seq _ (.seq _ (.seq _ (.seq (.seq _ (.cond _ (.seq a _) _)) _))) => a | _ => .skip
noncomputable def rLW5 : Code := match bodyLW with | .seq _ (.seq _ (.seq _ (.seq _ (.seq a _)))) => a | _ => .skip
noncomputable def rLW6 : Code := match bodyLW with | .seq _ (.seq _ (.seq _ (.seq _ (.seq _ (.seq a _))))) => a | _ => .skip
noncomputable def rLW7 : Code := match bodyLW with | .seq _ (.seq _ (.seq _ (.seq _ (.seq _ (.seq _ (.seq a _)))))) => a | _ => .skip
noncomputable def rLW8 : Code := match bodyLW with | .seq _ (.seq _ (.seq _ (.seq _ (.seq _ (.seq _ (.seq _ (.seq (.seq a _) _))))))) => a | _ => .skip
noncomputable def rLW10 : Code := match bodyLW with | .seq _ (.seq _ (.seq _ (.seq _ (.seq _ (.seq _ (.seq _ (.seq _ (.seq (.seq a _) _)))))))) => a | _ => .skip
noncomputable def rLW12 : Code := match bodyLW with | .seq _ (.seq _ (.seq _ (.seq _ (.seq _ (.seq _ (.seq _ (.seq _ (.seq _ (.seq a _))))))))) => a | _ => .skip
noncomputable def kLW9 : Code := match bodyLW with | .seq _ (.seq _ (.seq _ (.seq _ (.seq _ (.seq _ (.seq _ (.seq (.seq _ (.cond _ a _)) _))))))) => a | _ => .skip
noncomputable def kLW11 : Code := match bodyLW with | .seq _ (.seq _ (.seq _ (.seq _ (.seq _ (.seq _ (.seq _ (.seq _ (.seq (.seq _ (.cond _ a _)) _)))))))) => a | _ => .skip
theorem bodyLW_eq : bodyLW = .seq rLW0 (.seq rLW1 (.seq rLW2 (.seq (.seq rLW3 (.cond (.tmp 15) (.seq rLW4 .ret) .skip)) (.seq rLW5 (.seq rLW6 (.seq rLW7 (.seq (.seq rLW8 (.cond (.tmp 29) kLW9 .skip)) (.seq (.seq rLW10 (.cond (.tmp 34) kLW11 .skip)) (.seq rLW12 .ret))))))))) := rfl
section
variable {Q : Exit → Go.Act → World → Prop} {u0 u1 u2 u3 u4 u5 u6 u7 u8 u9 u10 u11 u12 u13 u14 u15 u16 u17 u18 u19 u20 u21 u22 u23 u24 u25 u26 u27 u28 u29 u30 u31 u32 u33 u34 : Value} {w : World} {A A' : Option Addr} {n cap n' cap' : Nat} {l q x y : Int} {rs : List RecD} {lo hi lo' hi' : Nat}
set_option maxHeartbeats 1000000 in
set_option maxRecDepth 20000 in
theorem wpLW0 (h : Q .normal ⟨#[u0, u1, u2, u3, u4, u5, .bool false, u7, u8, u9, u10, u11, u12, u13, u14, u15, u16, u17, u18, u19, u20, u21, u22, u23, u24, u25, u26, u27, u28, u29, u30, u31, u32, u33, u34], []⟩ w) : Code.wp Try.prog rLW0 Q ⟨#[u0, u1, u2, u3, u4, u5, u6, u7, u8, u9, u10, u11, u12, u13, u14, u15, u16, u17, u18, u19, u20, u21, u22, u23, u24, u25, u26, u27, u28, u29, u30, u31, u32, u33, u34], []⟩ w := by
  simp only [rLW0, bodyLW, Try.f4, Option.getD_some]
  go_wp2
  exact h
set_option maxHeartbeats 1000000 in
set_option maxRecDepth 20000 in
theorem wpLW1 (h : Q .normal ⟨#[u0, u1, u2, u3, u4, u5, u6, .int .i64 1048576, u8, u9, u10, u11, u12, u13, u14, u15, u16, u17, u18, u19, u20, u21, u22, u23, u24, u25, u26, u27, u28, u29, u30, u31, u32, u33, u34], []⟩ w) : Code.wp Try.prog rLW1 Q ⟨#[u0, u1, u2, u3, u4, u5, u6, u7, u8, u9, u10, u11, u12, u13, u14, u15, u16, u17, u18, u19, u20, u21, u22, u23, u24, u25, u26, u27, u28, u29, u30, u31, u32, u33, u34], []⟩ w := by
  simp only [rLW1, bodyLW, Try.f4, Option.getD_some]
  go_wp2
  exact h
set_option maxHeartbeats 1000000 in
set_option maxRecDepth 20000 in
theorem wpLW2 (hs : Slc w lo hi 7 A n cap (recs rs)) (hd : ∀ d ∈ rs, d.e.size ≤ maxLen) (h : ∀ u11 u12 u13 w', Below w.heap.size w w' → Q .normal ⟨#[.slice A n cap, u1, u2, u3, u4, u5, u6, .int .i64 (szRecN 1048576 n rs), u8, u9, u10, u11, u12, u13, u14, u15, u16, u17, u18, u19, u20, u21, u22, u23, u24, u25, u26, u27, u28, u29, u30, u31, u32, u33, u34], []⟩ w') : Code.wp Try.prog rLW2 Q ⟨#[.slice A n cap, u1, u2, u3, u4, u5, u6, .int .i64 1048576, u8, u9, u10, u11, u12, u13, u14, u15, u16, u17, u18, u19, u20, u21, u22, u23, u24, u25, u26, u27, u28, u29, u30, u31, u32, u33, u34], []⟩ w := by
  simp only [rLW2, bodyLW, Try.f4, Option.getD_some]
  have HH := Lib.hid h
  clear h
  go_wp2_with fail
  refine (szRecordS_any _ _ _ _ _ _ _ _ hs hd (by omega) (by omega)).mono ?_
  rintro e w1 ⟨rfl, b1⟩
  clear hs hd
  go_wp2
  exact HH.out _ _ _ _ b1
set_option maxHeartbeats 1000000 in
set_option maxRecDepth 20000 in
theorem wpLW3 (h : ∀ u14, Q .normal ⟨#[u0, u1, u2, u3, u4, u5, u6, .int .i64 x, u8, u9, u10, u11, u12, u13, u14, .bool (decide (x < 0)), u16, u17, u18, u19, u20, u21, u22, u23, u24, u25, u26, u27, u28, u29, u30, u31, u32, u33, u34], []⟩ w) : Code.wp Try.prog rLW3 Q ⟨#[u0, u1, u2, u3, u4, u5, u6, .int .i64 x, u8, u9, u10, u11, u12, u13, u14, u15, u16, u17, u18, u19, u20, u21, u22, u23, u24, u25, u26, u27, u28, u29, u30, u31, u32, u33, u34], []⟩ w := by
  simp only [rLW3, bodyLW, Try.f4, Option.getD_some]
  go_wp2
  exact h _
set_option maxHeartbeats 1000000 in
set_option maxRecDepth 20000 in
theorem wpLW4 (h : Q .normal ⟨#[u0, u1, u2, u3, u4, u5, .bool true, u7, u8, u9, u10, u11, u12, u13, u14, u15, u16, u17, u18, u19, u20, u21, u22, u23, u24, u25, u26, u27, u28, u29, u30, u31, u32, u33, u34], []⟩ w) : Code.wp Try.prog rLW4 Q ⟨#[u0, u1, u2, u3, u4, u5, u6, u7, u8, u9, u10, u11, u12, u13, u14, u15, u16, u17, u18, u19, u20, u21, u22, u23, u24, u25, u26, u27, u28, u29, u30, u31, u32, u33, u34], []⟩ w := by
  simp only [rLW4, bodyLW, Try.f4, Option.getD_some]
  go_wp2
  exact h
set_option maxHeartbeats 1000000 in
set_option maxRecDepth 20000 in
theorem wpLW5 (hs : Slc w lo hi 7 A n cap (recs rs)) (hn : n ≤ 1048576) (h : ∀ u16 u17 u18 u19 u20 w', Below w.heap.size w w' → Q .normal ⟨#[.slice A n cap, .int .i64 l, .int .i64 q, u3, u4, u5, u6, u7, .int .i64 (waitM rs l q), u9, u10, u11, u12, u13, u14, u15, u16, u17, u18, u19, u20, u21, u22, u23, u24, u25, u26, u27, u28, u29, u30, u31, u32, u33, u34], []⟩ w') : Code.wp Try.prog rLW5 Q ⟨#[.slice A n cap, .int .i64 l, .int .i64 q, u3, u4, u5, u6, u7, u8, u9, u10, u11, u12, u13, u14, u15, u16, u17, u18, u19, u20, u21, u22, u23, u24, u25, u26, u27, u28, u29, u30, u31, u32, u33, u34], []⟩ w := by
  simp only [rLW5, bodyLW, Try.f4, Option.getD_some]
  have HH := Lib.hid h
  clear h
  go_wp2_with fail
  refine (toRecordS_any _ _ _ _ _ _ _ hs hn).mono ?_
  rintro e w1 ⟨b, m, cs, rfl, hm, _, _, _, ho, b1⟩
  have hn1 : m ≤ 1048576 := by rw [hm, hs.recLen]; exact hn
  have hs1 := ho.slc
  clear hs ho hm
  go_wp2_with fail
  refine (spec_WaitedMinutes _ _ _ _ _ _ _ _ _ hs1 hn1).mono ?_
  rintro e w2 ⟨rfl, b2⟩
  have B2 := below_step b1 b2
  clear hs1 b1 b2
  go_wp2
  exact HH.out _ _ _ _ _ _ B2
set_option maxHeartbeats 1000000 in
set_option maxRecDepth 20000 in
theorem wpLW6 (hs : Slc w lo hi 7 A n cap (recs rs)) (hn : n ≤ 1048576) (h : ∀ u21 u22 w' v, NewR w rs (.returned v) w' → Q .normal ⟨#[.slice A n cap, u1, u2, u3, u4, u5, u6, u7, u8, v, u10, u11, u12, u13, u14, u15, u16, u17, u18, u19, u20, u21, u22, u23, u24, u25, u26, u27, u28, u29, u30, u31, u32, u33, u34], []⟩ w') : Code.wp Try.prog rLW6 Q ⟨#[.slice A n cap, u1, u2, u3, u4, u5, u6, u7, u8, u9, u10, u11, u12, u13, u14, u15, u16, u17, u18, u19, u20, u21, u22, u23, u24, u25, u26, u27, u28, u29, u30, u31, u32, u33, u34], []⟩ w := by
  simp only [rLW6, bodyLW, Try.f4, Option.getD_some]
  have HH := Lib.hid h
  clear h
  go_wp2_with fail
  refine (toRecordS_any _ _ _ _ _ _ _ hs hn).mono ?_
  rintro e w1 hN
  obtain ⟨b, m, cs, rfl, h1⟩ := hN
  have HN := Lib.hid h1
  clear hs h1
  go_wp2
  exact HH.out _ _ _ _ ⟨b, m, cs, rfl, HN.out⟩
set_option maxHeartbeats 1000000 in
set_option maxRecDepth 20000 in
theorem wpLW8 (h : ∀ u27 u28, Q .normal ⟨#[u0, u1, u2, u3, u4, u5, u6, u7, .int .i64 x, u9, .int .i64 x, u11, u12, u13, u14, u15, u16, u17, u18, u19, u20, u21, u22, u23, u24, u25, u26, u27, u28, .bool false, u30, u31, u32, u33, u34], []⟩ w) : Code.wp Try.prog rLW8 Q ⟨#[u0, u1, u2, u3, u4, u5, u6, u7, .int .i64 x, u9, .int .i64 x, u11, u12, u13, u14, u15, u16, u17, u18, u19, u20, u21, u22, u23, u24, u25, u26, u27, u28, u29, u30, u31, u32, u33, u34], []⟩ w := by
  simp only [rLW8, bodyLW, Try.f4, Option.getD_some]
  go_wp2
  exact h _ _
set_option maxHeartbeats 1000000 in
set_option maxRecDepth 20000 in
theorem wpLW10 (hs : Slc w lo hi 7 A n cap (recs rs)) (hs' : Slc w lo' hi' 7 A' n' cap' (recs rs)) (hn : n ≤ 1048576) (h : ∀ u30 u31 u32 u33 w', Q .normal ⟨#[.slice A n cap, u1, u2, u3, u4, u5, u6, u7, u8, .slice A' n' cap', u10, u11, u12, u13, u14, u15, u16, u17, u18, u19, u20, u21, u22, u23, u24, u25, u26, u27, u28, u29, u30, u31, u32, u33, .bool false], []⟩ w') : Code.wp Try.prog rLW10 Q ⟨#[.slice A n cap, u1, u2, u3, u4, u5, u6, u7, u8, .slice A' n' cap', u10, u11, u12, u13, u14, u15, u16, u17, u18, u19, u20, u21, u22, u23, u24, u25, u26, u27, u28, u29, u30, u31, u32, u33, u34], []⟩ w := by
  simp only [rLW10, bodyLW, Try.f4, Option.getD_some]
  have HH := Lib.hid h
  clear h
  go_wp2_with fail
  refine (toRecordS_any _ _ _ _ _ _ _ hs hn).mono ?_
  rintro e w1 ⟨b, m, cs, rfl, hm, _, _, _, ho, b1⟩
  have hn1 : m ≤ 1048576 := by rw [hm, hs.recLen]; exact hn
  have hn' : n' ≤ 1048576 := by rw [← hs'.recLen, hs.recLen]; exact hn
  have hs1 := ho.slc
  have hs2 := hs'.below b1
  clear hs ho hs' hm
  go_wp2_with fail
  refine (eqRecordS_any _ _ _ _ _ _ _ _ _ _ _ _ _ hs2 hs1 hn' hn1).mono ?_
  rintro e w2 ⟨rfl, b2⟩
  rw [show (rs == rs) = true from beq_self_eq_true rs]
  clear hs1 hs2 b1 b2
  go_wp2
  exact HH.out _ _ _ _ _
set_option maxHeartbeats 1000000 in
set_option maxRecDepth 20000 in
theorem wpLW12 (h : Q .normal ⟨#[u0, u1, u2, u3, u4, u5, .bool true, u7, u8, u9, u10, u11, u12, u13, u14, u15, u16, u17, u18, u19, u20, u21, u22, u23, u24, u25, u26, u27, u28, u29, u30, u31, u32, u33, u34], []⟩ w) : Code.wp Try.prog rLW12 Q ⟨#[u0, u1, u2, u3, u4, u5, u6, u7, u8, u9, u10, u11, u12, u13, u14, u15, u16, u17, u18, u19, u20, u21, u22, u23, u24, u25, u26, u27, u28, u29, u30, u31, u32, u33, u34], []⟩ w := by
  simp only [rLW12, bodyLW, Try.f4, Option.getD_some]
  go_wp2
  exact h
end
end Go.Proofs.Ytjcpjijihajopaa
