/-
  The law of TotalOf, judged.
-/
import Derived.Test.YtjcpjijihajopaaTotA
import Derived.Test.YtjcpjijihajopaaBilB
set_option linter.unusedSectionVars false
set_option linter.unusedSimpArgs false
set_option linter.unusedVariables false
namespace Go.Proofs.Ytjcpjijihajopaa
open Go.RowKit Go.Mt Go.Conc Go.Tt Go.Maps
set_option linter.unusedVariables false
noncomputable def bodyLT : Code := (Try.f5.body).getD .skip
noncomputable def rLT0 : Code := match bodyLT with | .seq (a) _ => a | _ => .skip
noncomputable def rLT1 : Code := match bodyLT with | .seq _ (.seq (a) _) => a | _ => .skip
noncomputable def rLT2 : Code := match bodyLT with | .seq _ (.seq _ (.seq (a) _)) => a | _ => .skip
noncomputable def rLT3 : Code := match bodyLT with | .seq _ (.seq _ (.seq _ (.seq (.seq (a) _) _))) => a | _ => .skip
noncomputable def rLT4 : Code := match bodyLT with | .seq _ (.seq _ (.seq _ (.seq (.seq _ (.cond _ (.seq (a) _) _)) _))) => a | _ => .skip
noncomputable def rLT5 : Code := match bodyLT with | .seq _ (.seq _ (.seq _ (.seq _ (.seq (a) _)))) => a | _ => .skip
noncomputable def rLT6 : Code := match bodyLT with | .seq _ (.seq _ (.seq _ (.seq _ (.seq _ (.seq (a) _))))) => a | _ => .skip
noncomputable def rLT7 : Code := match bodyLT with | .seq _ (.seq _ (.seq _ (.seq _ (.seq _ (.seq _ (.seq (a) _)))))) => a | _ => .skip
noncomputable def tLT : Code := match bodyLT with | .seq _ (.seq _ (.seq _ (.seq _ (.seq _ (.seq _ (.seq _ (a))))))) => a | _ => .skip
theorem bodyLT_eq : bodyLT = (.seq rLT0 (.seq rLT1 (.seq rLT2 (.seq (.seq rLT3 (.cond (.tmp 13) (.seq rLT4 .ret) .skip)) (.seq rLT5 (.seq rLT6 (.seq rLT7 tLT))))))) := rfl
noncomputable def opsLT7 : Array Oper := match rLT7 with | .region _ ops _ => ops | _ => #[]
theorem rLT7_eq : rLT7 = .region 7 opsLT7 false := rfl
theorem opsLT7_range : List.range opsLT7.size = [0, 1, 2, 3, 4] := rfl
abbrev oLT7_0 : Oper := { dst := some 21, op := Go.Op.load 30 (Go.Operand.tmp 2), type := 30, pos := "exact.go:3816", after := #[], guard := none }
theorem opsLT7_0 : opsLT7[0]? = some oLT7_0 := rfl
abbrev oLT7_1 : Oper := { dst := some 22, op := Go.Op.call { callee := Go.Callee.value (Go.Operand.func 17), args := #[Go.Operand.tmp 21], argTypes := #[30] }, type := 32, pos := "exact.go:3816", after := #[{ on := 0, ground := Go.Ground.data }], guard := none }
theorem opsLT7_1 : opsLT7[1]? = some oLT7_1 := rfl
abbrev oLT7_2 : Oper := { dst := some 23, op := Go.Op.move (Go.Operand.tmp 7), type := 25, pos := "exact.go:3816", after := #[], guard := none }
theorem opsLT7_2 : opsLT7[2]? = some oLT7_2 := rfl
abbrev oLT7_3 : Oper := { dst := some 24, op := Go.Op.call { callee := Go.Callee.value (Go.Operand.func 18), args := #[Go.Operand.tmp 22, Go.Operand.tmp 23], argTypes := #[32, 25] }, type := 3, pos := "exact.go:3816", after := #[{ on := 1, ground := Go.Ground.data }, { on := 2, ground := Go.Ground.data }, { on := 1, ground := Go.Ground.chain }], guard := none }
theorem opsLT7_3 : opsLT7[3]? = some oLT7_3 := rfl
abbrev oLT7_4 : Oper := { dst := some 8, op := Go.Op.assign (Go.Operand.tmp 24), type := 3, pos := "exact.go:3816", after := #[{ on := 3, ground := Go.Ground.data }, { on := 3, ground := Go.Ground.chain }, { on := 0, ground := Go.Ground.phase }, { on := 1, ground := Go.Ground.phase }, { on := 2, ground := Go.Ground.phase }, { on := 3, ground := Go.Ground.phase }], guard := none }
theorem opsLT7_4 : opsLT7[4]? = some oLT7_4 := rfl
section
variable {St : Nat → Prop} {W0 : World} {Post : Value → World → Prop}
set_option maxHeartbeats 8000000 in
set_option maxRecDepth 100000 in
theorem jo_law_LT {w : World} {A : Option Addr} {n cap : Nat} {T : Trf} {rs : List RecD} (h1 : Slc w 0 w.heap.size 7 A n cap (recs rs)) (hd : ∀ d ∈ rs, d.e.size ≤ maxLen) (hG : Try.prog.globals.size ≤ w.heap.size) (hP : ∀ (R : Pr) (W : World), Kp W0 R St W → Post (.bool true) W) :
    JE St W0 Post ⟨5, #[.agg #[.int .i64 T.f, .int .i64 T.s, .int .i64 T.p], .slice A n cap, undef, undef, undef, undef, undef, undef, undef, undef, undef, undef, undef, undef, undef, undef, undef, undef, undef, undef, undef, undef, undef, undef, undef, undef, undef, undef, undef, undef, undef, undef, undef], [.code bodyLT], false⟩ [] w := by
  have L := lvF
  have hfo : inL olL 5 = false := by kernel_rfl
  have hend : ∀ (tmps : Array Value) (td : List Item) (w' : World), tmps.getD 4 undef = .bool true → JE St W0 Post ⟨5, tmps, td, true⟩ [] w' := by
    intro tmps td w' h6
    refine JO.fin L (t := 4) rfl Try.func5 rfl (by kernel_rfl) fun K R W v' hv hk => ?_
    have hv' : VR (SF fsF) K R (tmps.getD 4 undef) v' := hv
    rw [h6] at hv'
    cases hv'
    exact hP R W hk
  have HX0 := Lib.hid (beq_self_eq_true (rs))
  rw [bodyLT_eq]
  refine JO.seq L hfo ?_
  refine JO.pieceQ L (by kernel_rfl) hfo (fun Tp Q HQ => ?_)
  simp only [rLT0, bodyLT, Try.f5, Option.getD_some]
  replace h1 := h1.tp Tp 0
  have s1 : w.heap.size ≤ (Tt.tp w Tp 0).heap.size := Nat.le_refl _
  generalize Tt.tp w Tp 0 = w1 at h1 s1 ⊢
  go_wp2
  refine HQ.out _ _ ?_
  clear HQ
  obtain ⟨g2, hg2⟩ : ∃ g, g = w1.heap.size := ⟨_, rfl⟩
  have s2 : w1.heap.size ≤ (w1.alloc (.cells #[.int .i64 T.f, .int .i64 T.s, .int .i64 T.p] 30)).heap.size := by simp
  replace h1 := h1.alloc (.cells #[.int .i64 T.f, .int .i64 T.s, .int .i64 T.p] 30)
  have kg2 : (w1.alloc (.cells #[.int .i64 T.f, .int .i64 T.s, .int .i64 T.p] 30)).heap[g2]? = some (.cells #[.int .i64 T.f, .int .i64 T.s, .int .i64 T.p] 30) := by rw [hg2]; exact heap_push w1 _
  rw [← hg2]
  generalize w1.alloc (.cells #[.int .i64 T.f, .int .i64 T.s, .int .i64 T.p] 30) = w2 at h1 s2 kg2 ⊢
  have Zg2 : w.heap.size ≤ g2 := by omega
  have Ug2 := blk_lt kg2
  clear hg2
  refine JO.seq L hfo ?_
  refine JO.pieceQ L (by kernel_rfl) hfo (fun Tp Q HQ => ?_)
  simp only [rLT1, bodyLT, Try.f5, Option.getD_some]
  replace h1 := h1.tp Tp 0
  replace kg2 := blk_tp kg2 Tp 0
  have s3 : w2.heap.size ≤ (Tt.tp w2 Tp 0).heap.size := Nat.le_refl _
  generalize Tt.tp w2 Tp 0 = w3 at h1 kg2 s3 ⊢
  go_wp2
  refine HQ.out _ _ ?_
  clear HQ
  refine JO.seq L hfo ?_
  refine JO.pieceQ L (by kernel_rfl) hfo (fun Tp Q HQ => ?_)
  simp only [rLT2, bodyLT, Try.f5, Option.getD_some]
  replace h1 := h1.tp Tp 0
  replace kg2 := blk_tp kg2 Tp 0
  have s4 : w3.heap.size ≤ (Tt.tp w3 Tp 0).heap.size := Nat.le_refl _
  generalize Tt.tp w3 Tp 0 = w4 at h1 kg2 s4 ⊢
  have once5 : True := trivial
  go_wp2_with (go_at_call 9; clear once5; refine (szRecord_u (1048576) h1 hd (by omega) (by omega)).mono ?_; rintro e w5 ⟨rfl, b5⟩)
  have s5 := b5.size
  replace h1 := h1.below b5
  replace kg2 := (blk_below b5 kg2).1
  clear b5
  go_wp2
  refine HQ.out _ _ ?_
  clear HQ
  refine JO.seq L hfo ?_
  refine JO.seq L hfo ?_
  refine JO.pieceQ L (by kernel_rfl) hfo (fun Tp Q HQ => ?_)
  simp only [rLT3, bodyLT, Try.f5, Option.getD_some]
  replace h1 := h1.tp Tp 0
  replace kg2 := blk_tp kg2 Tp 0
  have s6 : w5.heap.size ≤ (Tt.tp w5 Tp 0).heap.size := Nat.le_refl _
  generalize Tt.tp w5 Tp 0 = w6 at h1 kg2 s6 ⊢
  go_wp2
  refine HQ.out _ _ ?_
  clear HQ
  by_cases hneg3 : szRecN (1048576) n rs < 0
  · refine JO.cond L (t := true) hfo (by show Value.bool (decide _) = _; rw [decide_eq_true hneg3]) ?_
    refine JO.seq L hfo ?_
    refine JO.pieceQ L (by kernel_rfl) hfo (fun Tp Q HQ => ?_)
    simp only [rLT4, bodyLT, Try.f5, Option.getD_some]
    go_wp2
    refine HQ.out _ _ ?_
    refine JO.ret L hfo ?_
    exact hend _ _ _ rfl
  refine JO.cond L (t := false) hfo (by show Value.bool (decide _) = _; rw [decide_eq_false hneg3]) ?_
  refine JO.skip L hfo ?_
  have l1 : n ≤ 1048576 := (szRecN_all (by omega : 0 ≤ szRecN (1048576) n rs) (by omega)).1
  have hle3 : szRecN (1048576) n rs ≤ 1048576 := Int.le_trans (szRecN_le (by omega)) (by omega)
  refine JO.seq L hfo ?_
  refine JO.pieceQ L (by kernel_rfl) hfo (fun Tp Q HQ => ?_)
  simp only [rLT5, bodyLT, Try.f5, Option.getD_some]
  replace h1 := h1.tp Tp 0
  replace kg2 := blk_tp kg2 Tp 0
  have s7 : w6.heap.size ≤ (Tt.tp w6 Tp 0).heap.size := Nat.le_refl _
  generalize Tt.tp w6 Tp 0 = w7 at h1 kg2 s7 ⊢
  have ckg20 := blk_cell kg2 0
  have ckg21 := blk_cell kg2 1
  have ckg22 := blk_cell kg2 2
  have once8 : True := trivial
  go_wp2_with (go_at_call 17; clear once8; refine (toTariff_u T.f T.s T.p _).mono ?_; rintro e w8 ⟨rfl, b8⟩)
  have s8 := b8.size
  replace h1 := h1.below b8
  replace kg2 := (blk_below b8 kg2).1
  clear b8
  have once9 : True := trivial
  go_wp2_with (go_at_call 11; clear once9; refine (toRecord_u h1 l1).mono ?_; rintro e w9 ⟨pY1, qY1, rfl, gY1, kY1, jY1, fY1, b9⟩)
  have s9 := b9.size
  replace h1 := h1.below b9
  replace kg2 := (blk_below b9 kg2).1
  clear b9
  have uY1 := blk_lt kY1
  have once10 : True := trivial
  go_wp2_with (go_at_call 16; clear once10; refine (spec_TotalOf T _ _ _ _ _ _ _ fY1.slc l1).mono ?_; rintro e w10 ⟨rfl, b10⟩)
  have s10 := b10.size
  replace h1 := h1.below b10
  replace kg2 := (blk_below b10 kg2).1
  replace fY1 := fY1.below b10
  replace kY1 := (blk_below b10 kY1).1
  clear b10
  go_wp2
  refine HQ.out _ _ ?_
  clear HQ
  refine JO.seq L hfo ?_
  refine JO.pieceQ L (by kernel_rfl) hfo (fun Tp Q HQ => ?_)
  simp only [rLT6, bodyLT, Try.f5, Option.getD_some]
  replace h1 := h1.tp Tp 0
  replace kg2 := blk_tp kg2 Tp 0
  replace fY1 := fY1.tp Tp 0
  replace kY1 := blk_tp kY1 Tp 0
  have s11 : w10.heap.size ≤ (Tt.tp w10 Tp 0).heap.size := Nat.le_refl _
  generalize Tt.tp w10 Tp 0 = w11 at h1 kg2 fY1 kY1 s11 ⊢
  have once12 : True := trivial
  go_wp2_with (go_at_call 11; clear once12; refine (toRecord_u h1 l1).mono ?_; rintro e w12 ⟨pY2, qY2, rfl, gY2, kY2, jY2, fY2, b12⟩)
  have s12 := b12.size
  replace h1 := h1.below b12
  replace kg2 := (blk_below b12 kg2).1
  replace fY1 := fY1.below b12
  replace kY1 := (blk_below b12 kY1).1
  clear b12
  have uY2 := blk_lt kY2
  go_wp2
  refine HQ.out _ _ ?_
  clear HQ
  refine JO.seq L hfo ?_
  rw [rLT7_eq]
  refine JO.reg L hfo ?_
  rw [opsLT7_range]
  refine JO.opv L (v := .agg #[.int .i64 T.f, .int .i64 T.s, .int .i64 T.p]) hfo opsLT7_0 rfl (fun T' e => exec_load (w := Tt.tp w12 T' e) (t := 30) (x := .tmp 2) (b := g2) rfl kg2 rfl Try.underlying30 rfl (by kernel_rfl)) ?_
  simp only [Go.Act.put, List.setIfInBounds_toArray, List.set_cons_zero, List.set_cons_succ]
  refine JO.callV L (xs := #[.agg #[.int .i64 T.f, .int .i64 T.s, .int .i64 T.p]]) (Q := ToTariffQ T.f T.s T.p w12) rfl rfl opsLT7_1 rfl rfl (by kernel_rfl) hfo (by kernel_rfl) (by simp [Fm.eval]) (fun v w' T e h => ToTariffQ.tp h T e) (toTariff_q T.f T.s T.p w12) (fun v w13 hq => ?_)
  obtain ⟨rfl, b13⟩ := hq
  have s13 := b13.size
  replace h1 := h1.bls b13 (Nat.le_refl _)
  replace kg2 := blk_bl b13 kg2 (blk_lt kg2)
  replace fY1 := fY1.bls b13 (Nat.le_refl _)
  replace kY1 := blk_bl b13 kY1 (blk_lt kY1)
  replace fY2 := fY2.bls b13 (Nat.le_refl _)
  replace kY2 := blk_bl b13 kY2 (blk_lt kY2)
  clear b13
  simp only [Fm.fin, opsLT7_1, Option.bind_some, List.setIfInBounds_toArray, List.set_cons_zero, List.set_cons_succ]
  refine JO.opv L (v := .slice (some ⟨pY2, 0, none⟩) n n) hfo opsLT7_2 rfl (fun T e => rfl) ?_
  simp only [Go.Act.put, List.setIfInBounds_toArray, List.set_cons_zero, List.set_cons_succ]
  refine jo_total (ops := opsLT7) (i := 3) (o := oLT7_3) (src := some ⟨pY2, 0, qY2, 50, (0, 0)⟩) (rs := rs) (T := T) rfl hfo rfl opsLT7_3 rfl rfl (by simp [Fm.eval]) ⟨rfl, kY2, fun v hv => recs_plain v (by rw [← jY2]; simpa using hv)⟩ (fun b' e => by cases e; show _ ≤ pY2; omega) (fY2.slc.wide (Nat.zero_le _) (by omega)) l1 (fun w14 b14 => ?_)
  have s14 := b14.size
  replace h1 := h1.bls b14 (Nat.le_refl _)
  replace kg2 := blk_bl b14 kg2 (blk_lt kg2)
  replace fY1 := fY1.bls b14 (Nat.le_refl _)
  replace kY1 := blk_bl b14 kY1 (blk_lt kY1)
  replace fY2 := fY2.bls b14 (Nat.le_refl _)
  replace kY2 := blk_bl b14 kY2 (blk_lt kY2)
  clear b14
  simp only [Fm.fin, opsLT7_3, Option.bind_some, List.setIfInBounds_toArray, List.set_cons_zero, List.set_cons_succ]
  refine JO.opv L (v := .int .i64 (totalM T rs)) hfo opsLT7_4 rfl (fun T e => rfl) ?_
  simp only [Go.Act.put, List.setIfInBounds_toArray, List.set_cons_zero, List.set_cons_succ]
  refine JO.regEnd L hfo ?_
  refine JO.tailQ L (by kernel_rfl) hfo (fun Tp Q HQ => ?_)
  simp only [tLT, bodyLT, Try.f5, Option.getD_some]
  replace h1 := h1.tp Tp 0
  replace kg2 := blk_tp kg2 Tp 0
  replace fY1 := fY1.tp Tp 0
  replace kY1 := blk_tp kY1 Tp 0
  replace fY2 := fY2.tp Tp 0
  replace kY2 := blk_tp kY2 Tp 0
  have s15 : w14.heap.size ≤ (Tt.tp w14 Tp 0).heap.size := Nat.le_refl _
  generalize Tt.tp w14 Tp 0 = w15 at h1 kg2 fY1 kY1 fY2 kY2 s15 ⊢
  have once16 : True := trivial
  go_wp2_with (go_at_call 11; clear once16; refine (toRecord_u h1 l1).mono ?_; rintro e w16 ⟨pY3, qY3, rfl, gY3, kY3, jY3, fY3, b16⟩)
  have s16 := b16.size
  replace h1 := h1.below b16
  replace kg2 := (blk_below b16 kg2).1
  replace fY1 := fY1.below b16
  replace kY1 := (blk_below b16 kY1).1
  replace fY2 := fY2.below b16
  replace kY2 := (blk_below b16 kY2).1
  clear b16
  have uY3 := blk_lt kY3
  have once17 : True := trivial
  go_wp2_with (go_at_call 13; clear once17; refine (eqRecord_u fY2.slc fY3.slc l1 l1).mono ?_; rintro e w17 ⟨rfl, b17⟩; rw [HX0.out])
  have s17 := b17.size
  replace h1 := h1.below b17
  replace kg2 := (blk_below b17 kg2).1
  replace fY1 := fY1.below b17
  replace kY1 := (blk_below b17 kY1).1
  replace fY2 := fY2.below b17
  replace kY2 := (blk_below b17 kY2).1
  replace fY3 := fY3.below b17
  replace kY3 := (blk_below b17 kY3).1
  clear b17
  go_wp2
  refine HQ.out _ _ (fun todo => ?_)
  exact hend _ _ _ rfl
end
end Go.Proofs.Ytjcpjijihajopaa
