/-
  The law of BusyMinutes: its pieces.
  The law of BusyMinutes, judged.
-/
import Derived.Test.YtjcpjijihajopaaBsy
set_option linter.unusedSectionVars false
set_option linter.unusedSimpArgs false
set_option linter.unusedVariables false
namespace Go.Proofs.Ytjcpjijihajopaa
open Go.RowKit Go.Mt Go.Conc Go.Tt Go.Maps
set_option linter.unusedVariables false
noncomputable def bodyLB : Code := (Try.f3.body).getD .skip
noncomputable def rLB0 : Code := match bodyLB with | .seq a _ => a | _ => .skip
noncomputable def rLB1 : Code := match bodyLB with | .seq _ (.seq a _) => a | _ => .skip
noncomputable def rLB2 : Code := match bodyLB with | .seq _ (.seq _ (.seq a _)) => a | _ => .skip
noncomputable def rLB3 : Code := match bodyLB with | .seq _ (.seq _ (.seq _ (.seq (.seq a _) _))) => a | _ => .skip
noncomputable def rLB4 : Code := match bodyLB with | .seq _ (.seq _ (.seq _ (.seq (.seq _ (.cond _ (.seq a _) _)) _))) => a | _ => .skip
noncomputable def rLB5 : Code := match bodyLB with | .seq _ (.seq _ (.seq _ (.seq _ (.seq a _)))) => a | _ => .skip
noncomputable def rLB6 : Code := match bodyLB with | .seq _ (.seq _ (.seq _ (.seq _ (.seq _ (.seq a _))))) => a | _ => .skip
noncomputable def rLB7 : Code := match bodyLB with | .seq _ (.seq _ (.seq _ (.seq _ (.seq _ (.seq _ (.seq a _)))))) => a | _ => .skip
noncomputable def rLB8 : Code := match bodyLB with | .seq _ (.seq _ (.seq _ (.seq _ (.seq _ (.seq _ (.seq _ (.seq (.seq a _) _))))))) => a | _ => .skip
noncomputable def rLB10 : Code := match bodyLB with | .seq _ (.seq _ (.seq _ (.seq _ (.seq _ (.seq _ (.seq _ (.seq _ (.seq (.seq a _) _)))))))) => a | _ => .skip
noncomputable def rLB12 : Code := match bodyLB with | .seq _ (.seq _ (.seq _ (.seq _ (.seq _ (.seq _ (.seq _ (.seq _ (.seq _ (.seq a _))))))))) => a | _ => .skip
noncomputable def kLB9 : Code := match bodyLB with | .seq _ (.seq _ (.seq _ (.seq _ (.seq _ (.seq _ (.seq _ (.seq (.seq _ (.cond _ a _)) _))))))) => a | _ => .skip
noncomputable def kLB11 : Code := match bodyLB with | .seq _ (.seq _ (.seq _ (.seq _ (.seq _ (.seq _ (.seq _ (.seq _ (.seq (.seq _ (.cond _ a _)) _)))))))) => a | _ => .skip
theorem bodyLB_eq : bodyLB = .seq rLB0 (.seq rLB1 (.seq rLB2 (.seq (.seq rLB3 (.cond (.tmp 15) (.seq rLB4 .ret) .skip)) (.seq rLB5 (.seq rLB6 (.seq rLB7 (.seq (.seq rLB8 (.cond (.tmp 29) kLB9 .skip)) (.seq (.seq rLB10 (.cond (.tmp 34) kLB11 .skip)) (.seq rLB12 .ret))))))))) := rfl
section
variable {Q : Exit → Go.Act → World → Prop} {u0 u1 u2 u3 u4 u5 u6 u7 u8 u9 u10 u11 u12 u13 u14 u15 u16 u17 u18 u19 u20 u21 u22 u23 u24 u25 u26 u27 u28 u29 u30 u31 u32 u33 u34 : Value} {w : World} {A A' : Option Addr} {n cap n' cap' : Nat} {l q x y : Int} {rs : List RecD} {lo hi lo' hi' : Nat}
set_option maxHeartbeats 1000000 in
set_option maxRecDepth 20000 in
theorem wpLB0 (h : Q .normal ⟨#[u0, u1, u2, u3, u4, u5, .bool false, u7, u8, u9, u10, u11, u12, u13, u14, u15, u16, u17, u18, u19, u20, u21, u22, u23, u24, u25, u26, u27, u28, u29, u30, u31, u32, u33, u34], []⟩ w) : Code.wp Try.prog rLB0 Q ⟨#[u0, u1, u2, u3, u4, u5, u6, u7, u8, u9, u10, u11, u12, u13, u14, u15, u16, u17, u18, u19, u20, u21, u22, u23, u24, u25, u26, u27, u28, u29, u30, u31, u32, u33, u34], []⟩ w := by
  simp only [rLB0, bodyLB, Try.f3, Option.getD_some]
  go_wp2
  exact h
set_option maxHeartbeats 1000000 in
set_option maxRecDepth 20000 in
theorem wpLB1 (h : Q .normal ⟨#[u0, u1, u2, u3, u4, u5, u6, .int .i64 1048576, u8, u9, u10, u11, u12, u13, u14, u15, u16, u17, u18, u19, u20, u21, u22, u23, u24, u25, u26, u27, u28, u29, u30, u31, u32, u33, u34], []⟩ w) : Code.wp Try.prog rLB1 Q ⟨#[u0, u1, u2, u3, u4, u5, u6, u7, u8, u9, u10, u11, u12, u13, u14, u15, u16, u17, u18, u19, u20, u21, u22, u23, u24, u25, u26, u27, u28, u29, u30, u31, u32, u33, u34], []⟩ w := by
  simp only [rLB1, bodyLB, Try.f3, Option.getD_some]
  go_wp2
  exact h
set_option maxHeartbeats 1000000 in
set_option maxRecDepth 20000 in
theorem wpLB2 (hs : Slc w lo hi 7 A n cap (recs rs)) (hd : ∀ d ∈ rs, d.e.size ≤ maxLen) (h : ∀ u11 u12 u13 w', Below w.heap.size w w' → Q .normal ⟨#[.slice A n cap, u1, u2, u3, u4, u5, u6, .int .i64 (szRecN 1048576 n rs), u8, u9, u10, u11, u12, u13, u14, u15, u16, u17, u18, u19, u20, u21, u22, u23, u24, u25, u26, u27, u28, u29, u30, u31, u32, u33, u34], []⟩ w') : Code.wp Try.prog rLB2 Q ⟨#[.slice A n cap, u1, u2, u3, u4, u5, u6, .int .i64 1048576, u8, u9, u10, u11, u12, u13, u14, u15, u16, u17, u18, u19, u20, u21, u22, u23, u24, u25, u26, u27, u28, u29, u30, u31, u32, u33, u34], []⟩ w := by
  simp only [rLB2, bodyLB, Try.f3, Option.getD_some]
  have HH := Lib.hid h
  clear h
  go_wp2_with fail
  refine (szRecordS_any _ _ _ _ _ _ _ _ hs hd (by omega) (by omega)).mono ?_
  rintro e w1 ⟨rfl, b1⟩
  clear hs hd
  go_wp2
  exact HH.out _ _ _ _ b1
set_option maxHeartbeats 1000000 in
set_option maxRecDepth 20000 in
theorem wpLB3 (h : ∀ u14, Q .normal ⟨#[u0, u1, u2, u3, u4, u5, u6, .int .i64 x, u8, u9, u10, u11, u12, u13, u14, .bool (decide (x < 0)), u16, u17, u18, u19, u20, u21, u22, u23, u24, u25, u26, u27, u28, u29, u30, u31, u32, u33, u34], []⟩ w) : Code.wp Try.prog rLB3 Q ⟨#[u0, u1, u2, u3, u4, u5, u6, .int .i64 x, u8, u9, u10, u11, u12, u13, u14, u15, u16, u17, u18, u19, u20, u21, u22, u23, u24, u25, u26, u27, u28, u29, u30, u31, u32, u33, u34], []⟩ w := by
  simp only [rLB3, bodyLB, Try.f3, Option.getD_some]
  go_wp2
  exact h _
set_option maxHeartbeats 1000000 in
set_option maxRecDepth 20000 in
theorem wpLB4 (h : Q .normal ⟨#[u0, u1, u2, u3, u4, u5, .bool true, u7, u8, u9, u10, u11, u12, u13, u14, u15, u16, u17, u18, u19, u20, u21, u22, u23, u24, u25, u26, u27, u28, u29, u30, u31, u32, u33, u34], []⟩ w) : Code.wp Try.prog rLB4 Q ⟨#[u0, u1, u2, u3, u4, u5, u6, u7, u8, u9, u10, u11, u12, u13, u14, u15, u16, u17, u18, u19, u20, u21, u22, u23, u24, u25, u26, u27, u28, u29, u30, u31, u32, u33, u34], []⟩ w := by
  simp only [rLB4, bodyLB, Try.f3, Option.getD_some]
  go_wp2
  exact h
set_option maxHeartbeats 1000000 in
set_option maxRecDepth 20000 in
theorem wpLB5 (hs : Slc w lo hi 7 A n cap (recs rs)) (hn : n ≤ 1048576) (h : ∀ u16 u17 u18 u19 u20 w', Below w.heap.size w w' → Q .normal ⟨#[.slice A n cap, .int .i64 l, .int .i64 q, u3, u4, u5, u6, u7, .int .i64 (busyM rs l q), u9, u10, u11, u12, u13, u14, u15, u16, u17, u18, u19, u20, u21, u22, u23, u24, u25, u26, u27, u28, u29, u30, u31, u32, u33, u34], []⟩ w') : Code.wp Try.prog rLB5 Q ⟨#[.slice A n cap, .int .i64 l, .int .i64 q, u3, u4, u5, u6, u7, u8, u9, u10, u11, u12, u13, u14, u15, u16, u17, u18, u19, u20, u21, u22, u23, u24, u25, u26, u27, u28, u29, u30, u31, u32, u33, u34], []⟩ w := by
  simp only [rLB5, bodyLB, Try.f3, Option.getD_some]
  have HH := Lib.hid h
  clear h
  go_wp2_with fail
  refine (toRecordS_any _ _ _ _ _ _ _ hs hn).mono ?_
  rintro e w1 ⟨b, m, cs, rfl, hm, _, _, _, ho, b1⟩
  have hn1 : m ≤ 1048576 := by rw [hm, hs.recLen]; exact hn
  have hs1 := ho.slc
  clear hs ho hm
  go_wp2_with fail
  refine (spec_BusyMinutes _ _ _ _ _ _ _ _ _ hs1 hn1).mono ?_
  rintro e w2 ⟨rfl, b2⟩
  have B2 := below_step b1 b2
  clear hs1 b1 b2
  go_wp2
  exact HH.out _ _ _ _ _ _ B2
set_option maxHeartbeats 1000000 in
set_option maxRecDepth 20000 in
theorem wpLB6 (hs : Slc w lo hi 7 A n cap (recs rs)) (hn : n ≤ 1048576) (h : ∀ u21 u22 w' v, NewR w rs (.returned v) w' → Q .normal ⟨#[.slice A n cap, u1, u2, u3, u4, u5, u6, u7, u8, v, u10, u11, u12, u13, u14, u15, u16, u17, u18, u19, u20, u21, u22, u23, u24, u25, u26, u27, u28, u29, u30, u31, u32, u33, u34], []⟩ w') : Code.wp Try.prog rLB6 Q ⟨#[.slice A n cap, u1, u2, u3, u4, u5, u6, u7, u8, u9, u10, u11, u12, u13, u14, u15, u16, u17, u18, u19, u20, u21, u22, u23, u24, u25, u26, u27, u28, u29, u30, u31, u32, u33, u34], []⟩ w := by
  simp only [rLB6, bodyLB, Try.f3, Option.getD_some]
  have HH := Lib.hid h
  clear h
  go_wp2_with fail
  refine (toRecordS_any _ _ _ _ _ _ _ hs hn).mono ?_
  rintro e w1 hN
  obtain ⟨b, m, cs, rfl, h1⟩ := hN
  have HN := Lib.hid h1
  clear hs h1
  go_wp2
  exact HH.out _ _ _ _ ⟨b, m, cs, rfl, HN.out⟩
set_option maxHeartbeats 1000000 in
set_option maxRecDepth 20000 in
theorem wpLB8 (h : ∀ u27 u28, Q .normal ⟨#[u0, u1, u2, u3, u4, u5, u6, u7, .int .i64 x, u9, .int .i64 x, u11, u12, u13, u14, u15, u16, u17, u18, u19, u20, u21, u22, u23, u24, u25, u26, u27, u28, .bool false, u30, u31, u32, u33, u34], []⟩ w) : Code.wp Try.prog rLB8 Q ⟨#[u0, u1, u2, u3, u4, u5, u6, u7, .int .i64 x, u9, .int .i64 x, u11, u12, u13, u14, u15, u16, u17, u18, u19, u20, u21, u22, u23, u24, u25, u26, u27, u28, u29, u30, u31, u32, u33, u34], []⟩ w := by
  simp only [rLB8, bodyLB, Try.f3, Option.getD_some]
  go_wp2
  exact h _ _
set_option maxHeartbeats 1000000 in
set_option maxRecDepth 20000 in
theorem wpLB10 (hs : Slc w lo hi 7 A n cap (recs rs)) (hs' : Slc w lo' hi' 7 A' n' cap' (recs rs)) (hn : n ≤ 1048576) (h : ∀ u30 u31 u32 u33 w', Q .normal ⟨#[.slice A n cap, u1, u2, u3, u4, u5, u6, u7, u8, .slice A' n' cap', u10, u11, u12, u13, u14, u15, u16, u17, u18, u19, u20, u21, u22, u23, u24, u25, u26, u27, u28, u29, u30, u31, u32, u33, .bool false], []⟩ w') : Code.wp Try.prog rLB10 Q ⟨#[.slice A n cap, u1, u2, u3, u4, u5, u6, u7, u8, .slice A' n' cap', u10, u11, u12, u13, u14, u15, u16, u17, u18, u19, u20, u21, u22, u23, u24, u25, u26, u27, u28, u29, u30, u31, u32, u33, u34], []⟩ w := by
  simp only [rLB10, bodyLB, Try.f3, Option.getD_some]
  have HH := Lib.hid h
  clear h
  go_wp2_with fail
  refine (toRecordS_any _ _ _ _ _ _ _ hs hn).mono ?_
  rintro e w1 ⟨b, m, cs, rfl, hm, _, _, _, ho, b1⟩
  have hn1 : m ≤ 1048576 := by rw [hm, hs.recLen]; exact hn
  have hn' : n' ≤ 1048576 := by rw [← hs'.recLen, hs.recLen]; exact hn
  have hs1 := ho.slc
  have hs2 := hs'.below b1
  clear hs ho hs' hm
  go_wp2_with fail
  refine (eqRecordS_any _ _ _ _ _ _ _ _ _ _ _ _ _ hs2 hs1 hn' hn1).mono ?_
  rintro e w2 ⟨rfl, b2⟩
  rw [show (rs == rs) = true from beq_self_eq_true rs]
  clear hs1 hs2 b1 b2
  go_wp2
  exact HH.out _ _ _ _ _
set_option maxHeartbeats 1000000 in
set_option maxRecDepth 20000 in
theorem wpLB12 (h : Q .normal ⟨#[u0, u1, u2, u3, u4, u5, .bool true, u7, u8, u9, u10, u11, u12, u13, u14, u15, u16, u17, u18, u19, u20, u21, u22, u23, u24, u25, u26, u27, u28, u29, u30, u31, u32, u33, u34], []⟩ w) : Code.wp Try.prog rLB12 Q ⟨#[u0, u1, u2, u3, u4, u5, u6, u7, u8, u9, u10, u11, u12, u13, u14, u15, u16, u17, u18, u19, u20, u21, u22, u23, u24, u25, u26, u27, u28, u29, u30, u31, u32, u33, u34], []⟩ w := by
  simp only [rLB12, bodyLB, Try.f3, Option.getD_some]
  go_wp2
  exact h
end
end Go.Proofs.Ytjcpjijihajopaa
namespace Go.Proofs.Ytjcpjijihajopaa
open Go.RowKit Go.Mt Go.Conc Go.Tt Go.Maps
set_option linter.unusedVariables false
noncomputable def ops7L : Array Oper := match rLB7 with | .region _ ops _ => ops | _ => #[]
theorem rLB7_eq : rLB7 = .region 7 ops7L false := rfl
theorem ops7L_range : List.range ops7L.size = [0, 1, 2, 3, 4] := rfl
abbrev oL0 : Oper := ⟨some 23, .move (.tmp 9), 25, "exact.go:3835", #[], none⟩
abbrev oL1 : Oper := ⟨some 24, .move (.tmp 1), 3, "exact.go:3835", #[], none⟩
abbrev oL2 : Oper := ⟨some 25, .move (.tmp 2), 3, "exact.go:3835", #[], none⟩
abbrev oL3 : Oper := ⟨some 26, .call ⟨.value (.func 12), #[.tmp 23, .tmp 24, .tmp 25], #[25, 3, 3]⟩, 3, "exact.go:3835", #[{ on := 0, ground := Ground.data }, { on := 1, ground := Ground.data }, { on := 2, ground := Ground.data }], none⟩
abbrev oL4 : Oper := ⟨some 10, .assign (.tmp 26), 3, "exact.go:3835", #[{ on := 3, ground := Ground.data }, { on := 3, ground := Ground.chain }, { on := 0, ground := Ground.phase }, { on := 1, ground := Ground.phase }, { on := 2, ground := Ground.phase }, { on := 3, ground := Ground.phase }], none⟩
theorem ops7L_0 : ops7L[0]? = some oL0 := rfl
theorem ops7L_1 : ops7L[1]? = some oL1 := rfl
theorem ops7L_2 : ops7L[2]? = some oL2 := rfl
theorem ops7L_3 : ops7L[3]? = some oL3 := rfl
theorem ops7L_4 : ops7L[4]? = some oL4 := rfl
theorem recs_plain {rs : List RecD} : ∀ v ∈ recs rs, plainV v := by
  intro v hv
  obtain ⟨d, _, hd⟩ := List.mem_flatMap.1 hv
  simp only [RecD.cells, List.mem_cons, List.not_mem_nil, or_false] at hd
  rcases hd with rfl | rfl | rfl | rfl | rfl | rfl | rfl
  all_goals first
    | exact .inl ⟨_, _, rfl⟩
    | exact .inr (.inl ⟨_, rfl⟩)
section
variable {St : Nat → Prop} {W0 : World} {Post : Value → World → Prop}
set_option maxHeartbeats 4000000 in
set_option maxRecDepth 100000 in
theorem jo_law_busy {w : World} {A : Option Addr} {n cap : Nat} {l q : Int} {rs : List RecD} (hs : Slc w 0 w.heap.size 7 A n cap (recs rs)) (hd : ∀ d ∈ rs, d.e.size ≤ maxLen) (hG : Try.prog.globals.size ≤ w.heap.size) (hP : ∀ (R : Pr) (W : World), Kp W0 R St W → Post (.bool true) W) :
    JE St W0 Post ⟨3, #[.slice A n cap, .int .i64 l, .int .i64 q, undef, undef, undef, undef, undef, undef, undef, undef, undef, undef, undef, undef, undef, undef, undef, undef, undef, undef, undef, undef, undef, undef, undef, undef, undef, undef, undef, undef, undef, undef, undef, undef], [.code bodyLB], false⟩ [] w := by
  have L := lvF
  have hfo : inL olL 3 = false := by kernel_rfl
  have hend : ∀ (tmps : Array Value) (td : List Item) (w' : World), tmps.getD 6 undef = .bool true → JE St W0 Post ⟨3, tmps, td, true⟩ [] w' := by
    intro tmps td w' h6
    refine JO.fin L (t := 6) rfl Try.func3 rfl (by kernel_rfl) fun K R W v' hv hk => ?_
    have hv' : VR (SF fsF) K R (tmps.getD 6 undef) v' := hv
    rw [h6] at hv'
    cases hv'
    exact hP R W hk
  rw [bodyLB_eq]
  refine JO.seq L hfo ?_
  refine JO.piece L (by kernel_rfl) hfo (fun T => ?_)
  refine wpLB0 ⟨rfl, ?_⟩
  have B := (Bl.refl w.heap.size w).tp T 0
  generalize Tt.tp w T 0 = w1 at B ⊢
  refine JO.seq L hfo ?_
  refine JO.piece L (by kernel_rfl) hfo (fun T => ?_)
  refine wpLB1 ⟨rfl, ?_⟩
  replace B := B.tp T 0
  generalize Tt.tp w1 T 0 = w2 at B ⊢
  refine JO.seq L hfo ?_
  refine JO.piece L (by kernel_rfl) hfo (fun T => ?_)
  replace B := B.tp T 0
  refine wpLB2 (hs.bl B) hd (fun u11 u12 u13 w3 b3 => ⟨rfl, ?_⟩)
  replace B := B.below b3 (Nat.le_refl _)
  clear b3
  refine JO.seq L hfo ?_
  refine JO.seq L hfo ?_
  refine JO.piece L (by kernel_rfl) hfo (fun T => ?_)
  refine wpLB3 (fun u14 => ⟨rfl, ?_⟩)
  replace B := B.tp T 0
  generalize Tt.tp w3 T 0 = w4 at B ⊢
  by_cases hneg : szRecN 1048576 n rs < 0
  · refine JO.cond L (t := true) hfo (by show Value.bool (decide _) = _; rw [decide_eq_true hneg]) ?_
    refine JO.seq L hfo ?_
    refine JO.piece L (by kernel_rfl) hfo (fun T => ?_)
    refine wpLB4 ⟨rfl, ?_⟩
    refine JO.ret L hfo ?_
    exact hend _ _ _ rfl
  refine JO.cond L (t := false) hfo (by show Value.bool (decide _) = _; rw [decide_eq_false hneg]) ?_
  refine JO.skip L hfo ?_
  obtain ⟨hn, _⟩ := szRecN_all (by omega : 0 ≤ szRecN 1048576 n rs) (by omega)
  refine JO.seq L hfo ?_
  refine JO.piece L (by kernel_rfl) hfo (fun T => ?_)
  replace B := B.tp T 0
  refine wpLB5 (hs.bl B) hn (fun u16 u17 u18 u19 u20 w5 b5 => ⟨rfl, ?_⟩)
  replace B := B.below b5 (Nat.le_refl _)
  clear b5
  refine JO.seq L hfo ?_
  refine JO.piece L (by kernel_rfl) hfo (fun T => ?_)
  replace B := B.tp T 0
  refine wpLB6 (hs.bl B) hn (fun u21 u22 w6 v hN => ⟨rfl, ?_⟩)
  obtain ⟨b, m, cs, hv, hm, hlo, hb, hcs, ho, b6⟩ := hN
  have hzB := B.size
  have hzB' : w.heap.size ≤ (Tt.tp w5 T 0).heap.size := hzB
  replace B := B.below b6 (Nat.le_refl _)
  clear b6
  obtain rfl : v = .slice (some ⟨b, 0, none⟩) m m := by injection hv
  have hm1 : m ≤ 1048576 := by rw [hm, hs.recLen]; exact hn
  have hs6 : Slc w6 0 w6.heap.size 7 (some ⟨b, 0, none⟩) m m (recs rs) := ho.slc.wide (Nat.zero_le _) (Nat.le_refl _)
  have hsrc : srcOk w6 (some ⟨b, 0, none⟩) (some ⟨b, 0, cs, 50, (0, 0)⟩) := ⟨rfl, hb, fun v hv => recs_plain v (by rw [← hcs]; simpa using hv)⟩
  clear ho hcs hv hb
  refine JO.seq L hfo ?_
  rw [rLB7_eq]
  refine JO.reg L hfo ?_
  rw [ops7L_range]
  refine JO.opv L (v := .slice (some ⟨b, 0, none⟩) m m) hfo ops7L_0 rfl (fun T e => rfl) ?_
  simp only [Go.Act.put, List.setIfInBounds_toArray, List.set_cons_zero, List.set_cons_succ]
  refine JO.opv L (v := .int .i64 l) hfo ops7L_1 rfl (fun T e => rfl) ?_
  simp only [Go.Act.put, List.setIfInBounds_toArray, List.set_cons_zero, List.set_cons_succ]
  refine JO.opv L (v := .int .i64 q) hfo ops7L_2 rfl (fun T e => rfl) ?_
  simp only [Go.Act.put, List.setIfInBounds_toArray, List.set_cons_zero, List.set_cons_succ]
  refine jo_busy (l := l) (q := q) (A := some ⟨b, 0, none⟩) (n := m) (cap := m) (ops := ops7L) (i := 3) (o := oL3) (rs := rs) rfl hfo rfl ops7L_3 rfl rfl (by simp [Fm.eval]) hsrc (fun b' e => by cases e; show _ ≤ b; omega) hs6 hm1 (fun w7 B7 => ?_)
  have hs7 := hs6.bl B7
  replace B : Bl w.heap.size w w7 := B.trans ⟨B7.size, fun x hx => B7.block x (by have := B.size; omega)⟩
  clear B7 hs6 hsrc
  simp only [Fm.fin, ops7L_3, Option.bind_some, List.setIfInBounds_toArray, List.set_cons_zero, List.set_cons_succ]
  refine JO.opv L (v := .int .i64 (busyM rs l q)) hfo ops7L_4 rfl (fun T e => rfl) ?_
  simp only [Go.Act.put, List.setIfInBounds_toArray, List.set_cons_zero, List.set_cons_succ]
  refine JO.regEnd L hfo ?_
  refine JO.seq L hfo ?_
  refine JO.seq L hfo ?_
  refine JO.piece L (by kernel_rfl) hfo (fun T => ?_)
  refine wpLB8 (fun u27 u28 => ⟨rfl, ?_⟩)
  replace hs7 := hs7.bl ((Bl.refl _ w7).tp T 0)
  replace B := B.tp T 0
  generalize Tt.tp w7 T 0 = w8 at B hs7 ⊢
  refine JO.cond L (t := false) hfo rfl ?_
  refine JO.skip L hfo ?_
  refine JO.seq L hfo ?_
  refine JO.seq L hfo ?_
  refine JO.piece L (by kernel_rfl) hfo (fun T => ?_)
  replace hs7 := hs7.bl ((Bl.refl _ w8).tp T 0)
  replace B := B.tp T 0
  refine wpLB10 (hs.bl B) hs7 hn (fun u30 u31 u32 u33 w9 => ⟨rfl, ?_⟩)
  refine JO.cond L (t := false) hfo rfl ?_
  refine JO.skip L hfo ?_
  refine JO.seq L hfo ?_
  refine JO.piece L (by kernel_rfl) hfo (fun T => ?_)
  refine wpLB12 ⟨rfl, ?_⟩
  refine JO.ret L hfo ?_
  exact hend _ _ _ rfl
end
end Go.Proofs.Ytjcpjijihajopaa
