/-
  The law of BillsOf, judged.
-/
import Derived.Test.YtjcpjijihajopaaTotA
import Derived.Test.YtjcpjijihajopaaBilB
set_option linter.unusedSectionVars false
set_option linter.unusedSimpArgs false
set_option linter.unusedVariables false
namespace Go.Proofs.Ytjcpjijihajopaa
open Go.RowKit Go.Mt Go.Conc Go.Tt Go.Maps
set_option linter.unusedVariables false
noncomputable def bodyLS : Code := (Try.f6.body).getD .skip
noncomputable def rLS0 : Code := match bodyLS with | .seq (a) _ => a | _ => .skip
noncomputable def rLS1 : Code := match bodyLS with | .seq _ (.seq (a) _) => a | _ => .skip
noncomputable def rLS2 : Code := match bodyLS with | .seq _ (.seq _ (.seq (a) _)) => a | _ => .skip
noncomputable def rLS3 : Code := match bodyLS with | .seq _ (.seq _ (.seq _ (.seq (.seq (a) _) _))) => a | _ => .skip
noncomputable def rLS4 : Code := match bodyLS with | .seq _ (.seq _ (.seq _ (.seq (.seq _ (.cond _ (.seq (a) _) _)) _))) => a | _ => .skip
noncomputable def rLS5 : Code := match bodyLS with | .seq _ (.seq _ (.seq _ (.seq _ (.seq (a) _)))) => a | _ => .skip
noncomputable def rLS6 : Code := match bodyLS with | .seq _ (.seq _ (.seq _ (.seq _ (.seq _ (.seq (a) _))))) => a | _ => .skip
noncomputable def rLS7 : Code := match bodyLS with | .seq _ (.seq _ (.seq _ (.seq _ (.seq _ (.seq _ (.seq (a) _)))))) => a | _ => .skip
noncomputable def qLS8 : Code := match bodyLS with | .seq _ (.seq _ (.seq _ (.seq _ (.seq _ (.seq _ (.seq _ (.seq (a) _))))))) => a | _ => .skip
noncomputable def qLS10 : Code := match bodyLS with | .seq _ (.seq _ (.seq _ (.seq _ (.seq _ (.seq _ (.seq _ (.seq _ (.seq (a) _)))))))) => a | _ => .skip
noncomputable def rLS12 : Code := match bodyLS with | .seq _ (.seq _ (.seq _ (.seq _ (.seq _ (.seq _ (.seq _ (.seq _ (.seq _ (.seq (a) _))))))))) => a | _ => .skip
noncomputable def rLS13 : Code := match bodyLS with | .seq _ (.seq _ (.seq _ (.seq _ (.seq _ (.seq _ (.seq _ (.seq _ (.seq _ (.seq _ (.seq (a) _)))))))))) => a | _ => .skip
noncomputable def qLS14 : Code := match bodyLS with | .seq _ (.seq _ (.seq _ (.seq _ (.seq _ (.seq _ (.seq _ (.seq _ (.seq _ (.seq _ (.seq _ (.seq (a) _))))))))))) => a | _ => .skip
noncomputable def rLS16 : Code := match bodyLS with | .seq _ (.seq _ (.seq _ (.seq _ (.seq _ (.seq _ (.seq _ (.seq _ (.seq _ (.seq _ (.seq _ (.seq _ (.seq (a) _)))))))))))) => a | _ => .skip
noncomputable def rLS17 : Code := match bodyLS with | .seq _ (.seq _ (.seq _ (.seq _ (.seq _ (.seq _ (.seq _ (.seq _ (.seq _ (.seq _ (.seq _ (.seq _ (.seq _ (.seq (a) _))))))))))))) => a | _ => .skip
noncomputable def rLS18 : Code := match bodyLS with | .seq _ (.seq _ (.seq _ (.seq _ (.seq _ (.seq _ (.seq _ (.seq _ (.seq _ (.seq _ (.seq _ (.seq _ (.seq _ (.seq _ (.seq (a) _)))))))))))))) => a | _ => .skip
noncomputable def rLS19 : Code := match bodyLS with | .seq _ (.seq _ (.seq _ (.seq _ (.seq _ (.seq _ (.seq _ (.seq _ (.seq _ (.seq _ (.seq _ (.seq _ (.seq _ (.seq _ (.seq _ (.seq (a) _))))))))))))))) => a | _ => .skip
noncomputable def qLS20 : Code := match bodyLS with | .seq _ (.seq _ (.seq _ (.seq _ (.seq _ (.seq _ (.seq _ (.seq _ (.seq _ (.seq _ (.seq _ (.seq _ (.seq _ (.seq _ (.seq _ (.seq _ (.seq (a) _)))))))))))))))) => a | _ => .skip
noncomputable def qLS22 : Code := match bodyLS with | .seq _ (.seq _ (.seq _ (.seq _ (.seq _ (.seq _ (.seq _ (.seq _ (.seq _ (.seq _ (.seq _ (.seq _ (.seq _ (.seq _ (.seq _ (.seq _ (.seq _ (.seq (a) _))))))))))))))))) => a | _ => .skip
noncomputable def rLS24 : Code := match bodyLS with | .seq _ (.seq _ (.seq _ (.seq _ (.seq _ (.seq _ (.seq _ (.seq _ (.seq _ (.seq _ (.seq _ (.seq _ (.seq _ (.seq _ (.seq _ (.seq _ (.seq _ (.seq _ (.seq (a) _)))))))))))))))))) => a | _ => .skip
noncomputable def tLS : Code := match bodyLS with | .seq _ (.seq _ (.seq _ (.seq _ (.seq _ (.seq _ (.seq _ (.seq _ (.seq _ (.seq _ (.seq _ (.seq _ (.seq _ (.seq _ (.seq _ (.seq _ (.seq _ (.seq _ (.seq _ (a))))))))))))))))))) => a | _ => .skip
theorem bodyLS_eq : bodyLS = (.seq rLS0 (.seq rLS1 (.seq rLS2 (.seq (.seq rLS3 (.cond (.tmp 20) (.seq rLS4 .ret) .skip)) (.seq rLS5 (.seq rLS6 (.seq rLS7 (.seq qLS8 (.seq qLS10 (.seq rLS12 (.seq rLS13 (.seq qLS14 (.seq rLS16 (.seq rLS17 (.seq rLS18 (.seq rLS19 (.seq qLS20 (.seq qLS22 (.seq rLS24 tLS))))))))))))))))))) := rfl
noncomputable def opsLS7 : Array Oper := match rLS7 with | .region _ ops _ => ops | _ => #[]
theorem rLS7_eq : rLS7 = .region 7 opsLS7 false := rfl
theorem opsLS7_range : List.range opsLS7.size = [0, 1, 2, 3, 4, 5, 6, 7, 8] := rfl
abbrev oLS7_0 : Oper := { dst := some 32, op := Go.Op.load 30 (Go.Operand.tmp 2), type := 30, pos := "exact.go:3770", after := #[], guard := none }
theorem opsLS7_0 : opsLS7[0]? = some oLS7_0 := rfl
abbrev oLS7_1 : Oper := { dst := some 33, op := Go.Op.call { callee := Go.Callee.value (Go.Operand.func 17), args := #[Go.Operand.tmp 32], argTypes := #[30] }, type := 32, pos := "exact.go:3770", after := #[{ on := 0, ground := Go.Ground.data }], guard := none }
theorem opsLS7_1 : opsLS7[1]? = some oLS7_1 := rfl
abbrev oLS7_2 : Oper := { dst := some 34, op := Go.Op.move (Go.Operand.tmp 8), type := 25, pos := "exact.go:3770", after := #[], guard := none }
theorem opsLS7_2 : opsLS7[2]? = some oLS7_2 := rfl
abbrev oLS7_3 : Oper := { dst := some 35, op := Go.Op.call { callee := Go.Callee.value (Go.Operand.func 20), args := #[Go.Operand.tmp 33, Go.Operand.tmp 34], argTypes := #[32, 25] }, type := 36, pos := "exact.go:3770", after := #[{ on := 1, ground := Go.Ground.data }, { on := 2, ground := Go.Ground.data }, { on := 1, ground := Go.Ground.chain }], guard := none }
theorem opsLS7_3 : opsLS7[3]? = some oLS7_3 := rfl
abbrev oLS7_4 : Oper := { dst := some 31, op := Go.Op.move (Go.Operand.tmp 35), type := 36, pos := "exact.go:3770", after := #[{ on := 3, ground := Go.Ground.data }], guard := none }
theorem opsLS7_4 : opsLS7[4]? = some oLS7_4 := rfl
abbrev oLS7_5 : Oper := { dst := some 36, op := Go.Op.extract (Go.Operand.tmp 31) 0, type := 35, pos := "exact.go:3770", after := #[{ on := 4, ground := Go.Ground.data }], guard := none }
theorem opsLS7_5 : opsLS7[5]? = some oLS7_5 := rfl
abbrev oLS7_6 : Oper := { dst := some 37, op := Go.Op.extract (Go.Operand.tmp 31) 1, type := 4, pos := "exact.go:3770", after := #[{ on := 4, ground := Go.Ground.data }, { on := 7, ground := Go.Ground.gcOnly Go.Departure.lateStores }], guard := none }
theorem opsLS7_6 : opsLS7[6]? = some oLS7_6 := rfl
abbrev oLS7_7 : Oper := { dst := some 9, op := Go.Op.assign (Go.Operand.tmp 36), type := 35, pos := "exact.go:3770", after := #[{ on := 5, ground := Go.Ground.data }, { on := 3, ground := Go.Ground.chain }, { on := 0, ground := Go.Ground.phase }, { on := 1, ground := Go.Ground.phase }, { on := 2, ground := Go.Ground.phase }, { on := 3, ground := Go.Ground.phase }, { on := 4, ground := Go.Ground.phase }, { on := 5, ground := Go.Ground.phase }, { on := 6, ground := Go.Ground.textOnly Go.Departure.lateStores }], guard := none }
theorem opsLS7_7 : opsLS7[7]? = some oLS7_7 := rfl
abbrev oLS7_8 : Oper := { dst := some 10, op := Go.Op.assign (Go.Operand.tmp 37), type := 4, pos := "exact.go:3770", after := #[{ on := 6, ground := Go.Ground.data }, { on := 7, ground := Go.Ground.chain }, { on := 0, ground := Go.Ground.phase }, { on := 1, ground := Go.Ground.phase }, { on := 2, ground := Go.Ground.phase }, { on := 3, ground := Go.Ground.phase }, { on := 4, ground := Go.Ground.phase }, { on := 5, ground := Go.Ground.phase }, { on := 6, ground := Go.Ground.phase }, { on := 7, ground := Go.Ground.phase }], guard := none }
theorem opsLS7_8 : opsLS7[8]? = some oLS7_8 := rfl
noncomputable def opsLS24 : Array Oper := match rLS24 with | .region _ ops _ => ops | _ => #[]
theorem rLS24_eq : rLS24 = .region 24 opsLS24 false := rfl
theorem opsLS24_range : List.range opsLS24.size = [0, 1, 2, 3, 4, 5, 6, 7, 8, 9] := rfl
abbrev oLS24_0 : Oper := { dst := some 80, op := Go.Op.load 30 (Go.Operand.tmp 2), type := 30, pos := "exact.go:3792", after := #[], guard := none }
theorem opsLS24_0 : opsLS24[0]? = some oLS24_0 := rfl
abbrev oLS24_1 : Oper := { dst := some 81, op := Go.Op.call { callee := Go.Callee.value (Go.Operand.func 17), args := #[Go.Operand.tmp 80], argTypes := #[30] }, type := 32, pos := "exact.go:3792", after := #[{ on := 0, ground := Go.Ground.data }], guard := none }
theorem opsLS24_1 : opsLS24[1]? = some oLS24_1 := rfl
abbrev oLS24_2 : Oper := { dst := some 82, op := Go.Op.move (Go.Operand.tmp 1), type := 22, pos := "exact.go:3792", after := #[], guard := none }
theorem opsLS24_2 : opsLS24[2]? = some oLS24_2 := rfl
abbrev oLS24_3 : Oper := { dst := some 83, op := Go.Op.call { callee := Go.Callee.value (Go.Operand.func 11), args := #[Go.Operand.tmp 82], argTypes := #[22] }, type := 25, pos := "exact.go:3792", after := #[{ on := 2, ground := Go.Ground.data }, { on := 1, ground := Go.Ground.chain }], guard := none }
theorem opsLS24_3 : opsLS24[3]? = some oLS24_3 := rfl
abbrev oLS24_4 : Oper := { dst := some 84, op := Go.Op.call { callee := Go.Callee.value (Go.Operand.func 20), args := #[Go.Operand.tmp 81, Go.Operand.tmp 83], argTypes := #[32, 25] }, type := 36, pos := "exact.go:3792", after := #[{ on := 1, ground := Go.Ground.data }, { on := 3, ground := Go.Ground.data }, { on := 3, ground := Go.Ground.chain }], guard := none }
theorem opsLS24_4 : opsLS24[4]? = some oLS24_4 := rfl
abbrev oLS24_5 : Oper := { dst := some 79, op := Go.Op.move (Go.Operand.tmp 84), type := 36, pos := "exact.go:3792", after := #[{ on := 4, ground := Go.Ground.data }], guard := none }
theorem opsLS24_5 : opsLS24[5]? = some oLS24_5 := rfl
abbrev oLS24_6 : Oper := { dst := some 85, op := Go.Op.extract (Go.Operand.tmp 79) 0, type := 35, pos := "exact.go:3792", after := #[{ on := 5, ground := Go.Ground.data }], guard := none }
theorem opsLS24_6 : opsLS24[6]? = some oLS24_6 := rfl
abbrev oLS24_7 : Oper := { dst := some 86, op := Go.Op.extract (Go.Operand.tmp 79) 1, type := 4, pos := "exact.go:3792", after := #[{ on := 5, ground := Go.Ground.data }, { on := 8, ground := Go.Ground.gcOnly Go.Departure.lateStores }], guard := none }
theorem opsLS24_7 : opsLS24[7]? = some oLS24_7 := rfl
abbrev oLS24_8 : Oper := { dst := some 14, op := Go.Op.assign (Go.Operand.tmp 85), type := 35, pos := "exact.go:3792", after := #[{ on := 6, ground := Go.Ground.data }, { on := 4, ground := Go.Ground.chain }, { on := 0, ground := Go.Ground.phase }, { on := 1, ground := Go.Ground.phase }, { on := 2, ground := Go.Ground.phase }, { on := 3, ground := Go.Ground.phase }, { on := 4, ground := Go.Ground.phase }, { on := 5, ground := Go.Ground.phase }, { on := 6, ground := Go.Ground.phase }, { on := 7, ground := Go.Ground.textOnly Go.Departure.lateStores }], guard := none }
theorem opsLS24_8 : opsLS24[8]? = some oLS24_8 := rfl
abbrev oLS24_9 : Oper := { dst := some 15, op := Go.Op.assign (Go.Operand.tmp 86), type := 4, pos := "exact.go:3792", after := #[{ on := 7, ground := Go.Ground.data }, { on := 8, ground := Go.Ground.chain }, { on := 0, ground := Go.Ground.phase }, { on := 1, ground := Go.Ground.phase }, { on := 2, ground := Go.Ground.phase }, { on := 3, ground := Go.Ground.phase }, { on := 4, ground := Go.Ground.phase }, { on := 5, ground := Go.Ground.phase }, { on := 6, ground := Go.Ground.phase }, { on := 7, ground := Go.Ground.phase }, { on := 8, ground := Go.Ground.phase }], guard := none }
theorem opsLS24_9 : opsLS24[9]? = some oLS24_9 := rfl
section
variable {St : Nat → Prop} {W0 : World} {Post : Value → World → Prop}
set_option maxHeartbeats 8000000 in
set_option maxRecDepth 100000 in
theorem jo_law_LS {w : World} {A : Option Addr} {n cap : Nat} {T : Trf} {rs : List RecD} (h1 : Slc w 0 w.heap.size 7 A n cap (recs rs)) (hd : ∀ d ∈ rs, d.e.size ≤ maxLen) (hG : Try.prog.globals.size ≤ w.heap.size) (hP : ∀ (R : Pr) (W : World), Kp W0 R St W → Post (.bool true) W) :
    JE St W0 Post ⟨6, #[.agg #[.int .i64 T.f, .int .i64 T.s, .int .i64 T.p], .slice A n cap, undef, undef, undef, undef, undef, undef, undef, undef, undef, undef, undef, undef, undef, undef, undef, undef, undef, undef, undef, undef, undef, undef, undef, undef, undef, undef, undef, undef, undef, undef, undef, undef, undef, undef, undef, undef, undef, undef, undef, undef, undef, undef, undef, undef, undef, undef, undef, undef, undef, undef, undef, undef, undef, undef, undef, undef, undef, undef, undef, undef, undef, undef, undef, undef, undef, undef, undef, undef, undef, undef, undef, undef, undef, undef, undef, undef, undef, undef, undef, undef, undef, undef, undef, undef, undef, undef, undef, undef, undef, undef, undef, undef, undef, undef, undef, undef, undef, undef, undef, undef, undef, undef], [.code bodyLS], false⟩ [] w := by
  have L := lvF
  have hfo : inL olL 6 = false := by kernel_rfl
  have hend : ∀ (tmps : Array Value) (td : List Item) (w' : World), tmps.getD 4 undef = .bool true → JE St W0 Post ⟨6, tmps, td, true⟩ [] w' := by
    intro tmps td w' h6
    refine JO.fin L (t := 4) rfl Try.func6 rfl (by kernel_rfl) fun K R W v' hv hk => ?_
    have hv' : VR (SF fsF) K R (tmps.getD 4 undef) v' := hv
    rw [h6] at hv'
    cases hv'
    exact hP R W hk
  have HX0 := Lib.hid (beq_self_eq_true (rs))
  have HEQ := Lib.hid (beq_self_eq_true (billsM T rs))
  have HLEN := Lib.hid (show (billsM T rs).length ≤ 1048576 from Nat.le_trans (billsM_len _ _) (by omega))
  rw [bodyLS_eq]
  refine JO.seq L hfo ?_
  refine JO.pieceQ L (by kernel_rfl) hfo (fun Tp Q HQ => ?_)
  simp only [rLS0, bodyLS, Try.f6, Option.getD_some]
  replace h1 := h1.tp Tp 0
  have s1 : w.heap.size ≤ (Tt.tp w Tp 0).heap.size := Nat.le_refl _
  generalize Tt.tp w Tp 0 = w1 at h1 s1 ⊢
  go_wp2
  refine HQ.out _ _ ?_
  clear HQ
  obtain ⟨g2, hg2⟩ : ∃ g, g = w1.heap.size := ⟨_, rfl⟩
  have s2 : w1.heap.size ≤ (w1.alloc (.cells #[.int .i64 T.f, .int .i64 T.s, .int .i64 T.p] 30)).heap.size := by simp
  replace h1 := h1.alloc (.cells #[.int .i64 T.f, .int .i64 T.s, .int .i64 T.p] 30)
  have kg2 : (w1.alloc (.cells #[.int .i64 T.f, .int .i64 T.s, .int .i64 T.p] 30)).heap[g2]? = some (.cells #[.int .i64 T.f, .int .i64 T.s, .int .i64 T.p] 30) := by rw [hg2]; exact heap_push w1 _
  rw [← hg2]
  generalize w1.alloc (.cells #[.int .i64 T.f, .int .i64 T.s, .int .i64 T.p] 30) = w2 at h1 s2 kg2 ⊢
  have Zg2 : w.heap.size ≤ g2 := by omega
  have Ug2 := blk_lt kg2
  clear hg2
  refine JO.seq L hfo ?_
  refine JO.pieceQ L (by kernel_rfl) hfo (fun Tp Q HQ => ?_)
  simp only [rLS1, bodyLS, Try.f6, Option.getD_some]
  replace h1 := h1.tp Tp 0
  replace kg2 := blk_tp kg2 Tp 0
  have s3 : w2.heap.size ≤ (Tt.tp w2 Tp 0).heap.size := Nat.le_refl _
  generalize Tt.tp w2 Tp 0 = w3 at h1 kg2 s3 ⊢
  go_wp2
  refine HQ.out _ _ ?_
  clear HQ
  refine JO.seq L hfo ?_
  refine JO.pieceQ L (by kernel_rfl) hfo (fun Tp Q HQ => ?_)
  simp only [rLS2, bodyLS, Try.f6, Option.getD_some]
  replace h1 := h1.tp Tp 0
  replace kg2 := blk_tp kg2 Tp 0
  have s4 : w3.heap.size ≤ (Tt.tp w3 Tp 0).heap.size := Nat.le_refl _
  generalize Tt.tp w3 Tp 0 = w4 at h1 kg2 s4 ⊢
  have once5 : True := trivial
  go_wp2_with (go_at_call 9; clear once5; refine (szRecord_u (1048576) h1 hd (by omega) (by omega)).mono ?_; rintro e w5 ⟨rfl, b5⟩)
  have s5 := b5.size
  replace h1 := h1.below b5
  replace kg2 := (blk_below b5 kg2).1
  clear b5
  go_wp2
  refine HQ.out _ _ ?_
  clear HQ
  refine JO.seq L hfo ?_
  refine JO.seq L hfo ?_
  refine JO.pieceQ L (by kernel_rfl) hfo (fun Tp Q HQ => ?_)
  simp only [rLS3, bodyLS, Try.f6, Option.getD_some]
  replace h1 := h1.tp Tp 0
  replace kg2 := blk_tp kg2 Tp 0
  have s6 : w5.heap.size ≤ (Tt.tp w5 Tp 0).heap.size := Nat.le_refl _
  generalize Tt.tp w5 Tp 0 = w6 at h1 kg2 s6 ⊢
  go_wp2
  refine HQ.out _ _ ?_
  clear HQ
  by_cases hneg3 : szRecN (1048576) n rs < 0
  · refine JO.cond L (t := true) hfo (by show Value.bool (decide _) = _; rw [decide_eq_true hneg3]) ?_
    refine JO.seq L hfo ?_
    refine JO.pieceQ L (by kernel_rfl) hfo (fun Tp Q HQ => ?_)
    simp only [rLS4, bodyLS, Try.f6, Option.getD_some]
    go_wp2
    refine HQ.out _ _ ?_
    refine JO.ret L hfo ?_
    exact hend _ _ _ rfl
  refine JO.cond L (t := false) hfo (by show Value.bool (decide _) = _; rw [decide_eq_false hneg3]) ?_
  refine JO.skip L hfo ?_
  have l1 : n ≤ 1048576 := (szRecN_all (by omega : 0 ≤ szRecN (1048576) n rs) (by omega)).1
  have hle3 : szRecN (1048576) n rs ≤ 1048576 := Int.le_trans (szRecN_le (by omega)) (by omega)
  refine JO.seq L hfo ?_
  refine JO.pieceQ L (by kernel_rfl) hfo (fun Tp Q HQ => ?_)
  simp only [rLS5, bodyLS, Try.f6, Option.getD_some]
  replace h1 := h1.tp Tp 0
  replace kg2 := blk_tp kg2 Tp 0
  have s7 : w6.heap.size ≤ (Tt.tp w6 Tp 0).heap.size := Nat.le_refl _
  generalize Tt.tp w6 Tp 0 = w7 at h1 kg2 s7 ⊢
  have ckg20 := blk_cell kg2 0
  have ckg21 := blk_cell kg2 1
  have ckg22 := blk_cell kg2 2
  have once8 : True := trivial
  go_wp2_with (go_at_call 17; clear once8; refine (toTariff_u T.f T.s T.p _).mono ?_; rintro e w8 ⟨rfl, b8⟩)
  have s8 := b8.size
  replace h1 := h1.below b8
  replace kg2 := (blk_below b8 kg2).1
  clear b8
  have once9 : True := trivial
  go_wp2_with (go_at_call 11; clear once9; refine (toRecord_u h1 l1).mono ?_; rintro e w9 ⟨pY1, qY1, rfl, gY1, kY1, jY1, fY1, b9⟩)
  have s9 := b9.size
  replace h1 := h1.below b9
  replace kg2 := (blk_below b9 kg2).1
  clear b9
  have uY1 := blk_lt kY1
  have once10 : True := trivial
  go_wp2_with (go_at_call 19; clear once10; refine (spec_BillsOf T _ _ _ _ _ _ _ fY1.slc l1).mono ?_; rintro e w10 ⟨RA, Rn, Rc, rfl, R, b10⟩)
  have s10 := b10.size
  replace h1 := h1.below b10
  replace kg2 := (blk_below b10 kg2).1
  replace fY1 := fY1.below b10
  replace kY1 := (blk_below b10 kY1).1
  clear b10
  have Rl : Rn ≤ 1048576 := by have := R.slc.billsLen; have := HLEN.out; omega
  go_wp2
  refine HQ.out _ _ ?_
  clear HQ
  refine JO.seq L hfo ?_
  refine JO.pieceQ L (by kernel_rfl) hfo (fun Tp Q HQ => ?_)
  simp only [rLS6, bodyLS, Try.f6, Option.getD_some]
  replace h1 := h1.tp Tp 0
  replace kg2 := blk_tp kg2 Tp 0
  replace fY1 := fY1.tp Tp 0
  replace kY1 := blk_tp kY1 Tp 0
  replace R := R.tp Tp 0
  have s11 : w10.heap.size ≤ (Tt.tp w10 Tp 0).heap.size := Nat.le_refl _
  generalize Tt.tp w10 Tp 0 = w11 at h1 kg2 fY1 kY1 R s11 ⊢
  have once12 : True := trivial
  go_wp2_with (go_at_call 11; clear once12; refine (toRecord_u h1 l1).mono ?_; rintro e w12 ⟨pY2, qY2, rfl, gY2, kY2, jY2, fY2, b12⟩)
  have s12 := b12.size
  replace h1 := h1.below b12
  replace kg2 := (blk_below b12 kg2).1
  replace fY1 := fY1.below b12
  replace kY1 := (blk_below b12 kY1).1
  replace R := R.below b12
  clear b12
  have uY2 := blk_lt kY2
  go_wp2
  refine HQ.out _ _ ?_
  clear HQ
  refine JO.seq L hfo ?_
  rw [rLS7_eq]
  refine JO.reg L hfo ?_
  rw [opsLS7_range]
  refine JO.opv L (v := .agg #[.int .i64 T.f, .int .i64 T.s, .int .i64 T.p]) hfo opsLS7_0 rfl (fun T' e => exec_load (w := Tt.tp w12 T' e) (t := 30) (x := .tmp 2) (b := g2) rfl kg2 rfl Try.underlying30 rfl (by kernel_rfl)) ?_
  simp only [Go.Act.put, List.setIfInBounds_toArray, List.set_cons_zero, List.set_cons_succ]
  refine JO.callV L (xs := #[.agg #[.int .i64 T.f, .int .i64 T.s, .int .i64 T.p]]) (Q := ToTariffQ T.f T.s T.p w12) rfl rfl opsLS7_1 rfl rfl (by kernel_rfl) hfo (by kernel_rfl) (by simp [Fm.eval]) (fun v w' T e h => ToTariffQ.tp h T e) (toTariff_q T.f T.s T.p w12) (fun v w13 hq => ?_)
  obtain ⟨rfl, b13⟩ := hq
  have s13 := b13.size
  replace h1 := h1.bls b13 (Nat.le_refl _)
  replace kg2 := blk_bl b13 kg2 (blk_lt kg2)
  replace fY1 := fY1.bls b13 (Nat.le_refl _)
  replace kY1 := blk_bl b13 kY1 (blk_lt kY1)
  replace R := R.bls b13 (Nat.le_refl _)
  replace fY2 := fY2.bls b13 (Nat.le_refl _)
  replace kY2 := blk_bl b13 kY2 (blk_lt kY2)
  clear b13
  simp only [Fm.fin, opsLS7_1, Option.bind_some, List.setIfInBounds_toArray, List.set_cons_zero, List.set_cons_succ]
  refine JO.opv L (v := .slice (some ⟨pY2, 0, none⟩) n n) hfo opsLS7_2 rfl (fun T e => rfl) ?_
  simp only [Go.Act.put, List.setIfInBounds_toArray, List.set_cons_zero, List.set_cons_succ]
  refine jo_bills (ops := opsLS7) (i := 3) (o := oLS7_3) (src := some ⟨pY2, 0, qY2, 50, (0, 0)⟩) (rs := rs) (T := T) rfl hfo rfl opsLS7_3 rfl rfl (by simp [Fm.eval]) ⟨rfl, kY2, fun v hv => recs_plain v (by rw [← jY2]; simpa using hv)⟩ (fun b' e => by cases e; show _ ≤ pY2; omega) (fY2.slc.wide (Nat.zero_le _) (by omega)) l1 (fun G3A G3n G3c w14 b14 G3 => ?_)
  have s14 := b14.size
  replace h1 := h1.bls b14 (Nat.le_refl _)
  replace kg2 := blk_bl b14 kg2 (blk_lt kg2)
  replace fY1 := fY1.bls b14 (Nat.le_refl _)
  replace kY1 := blk_bl b14 kY1 (blk_lt kY1)
  replace R := R.bls b14 (Nat.le_refl _)
  replace fY2 := fY2.bls b14 (Nat.le_refl _)
  replace kY2 := blk_bl b14 kY2 (blk_lt kY2)
  clear b14
  have G3l : G3n ≤ 1048576 := by have := G3.slc.billsLen; have := HLEN.out; omega
  simp only [Fm.fin, opsLS7_3, Option.bind_some, List.setIfInBounds_toArray, List.set_cons_zero, List.set_cons_succ]
  refine JO.opv L (v := .tuple #[.slice G3A G3n G3c, .bool (billOk T rs)]) hfo opsLS7_4 rfl (fun T e => rfl) ?_
  simp only [Go.Act.put, List.setIfInBounds_toArray, List.set_cons_zero, List.set_cons_succ]
  refine JO.opv L (v := .slice G3A G3n G3c) hfo opsLS7_5 rfl (fun T e => rfl) ?_
  simp only [Go.Act.put, List.setIfInBounds_toArray, List.set_cons_zero, List.set_cons_succ]
  refine JO.opv L (v := .bool (billOk T rs)) hfo opsLS7_6 rfl (fun T e => rfl) ?_
  simp only [Go.Act.put, List.setIfInBounds_toArray, List.set_cons_zero, List.set_cons_succ]
  refine JO.opv L (v := .slice G3A G3n G3c) hfo opsLS7_7 rfl (fun T e => rfl) ?_
  simp only [Go.Act.put, List.setIfInBounds_toArray, List.set_cons_zero, List.set_cons_succ]
  refine JO.opv L (v := .bool (billOk T rs)) hfo opsLS7_8 rfl (fun T e => rfl) ?_
  simp only [Go.Act.put, List.setIfInBounds_toArray, List.set_cons_zero, List.set_cons_succ]
  refine JO.regEnd L hfo ?_
  refine JO.seq L hfo ?_
  refine JO.pieceQ L (by kernel_rfl) hfo (fun Tp Q HQ => ?_)
  simp only [qLS8, bodyLS, Try.f6, Option.getD_some]
  replace h1 := h1.tp Tp 0
  replace kg2 := blk_tp kg2 Tp 0
  replace fY1 := fY1.tp Tp 0
  replace kY1 := blk_tp kY1 Tp 0
  replace R := R.tp Tp 0
  replace fY2 := fY2.tp Tp 0
  replace kY2 := blk_tp kY2 Tp 0
  replace G3 := G3.tp Tp 0
  have s15 : w14.heap.size ≤ (Tt.tp w14 Tp 0).heap.size := Nat.le_refl _
  generalize Tt.tp w14 Tp 0 = w15 at h1 kg2 fY1 kY1 R fY2 kY2 G3 s15 ⊢
  have once16 : True := trivial
  go_wp2_with (go_at_call 21; clear once16; refine (eqBill_u G3.slc R.slc G3l Rl).mono ?_; rintro e w16 ⟨rfl, b16⟩; rw [HEQ.out])
  have s16 := b16.size
  replace h1 := h1.below b16
  replace kg2 := (blk_below b16 kg2).1
  replace fY1 := fY1.below b16
  replace kY1 := (blk_below b16 kY1).1
  replace R := R.below b16
  replace fY2 := fY2.below b16
  replace kY2 := (blk_below b16 kY2).1
  replace G3 := G3.below b16
  clear b16
  go_wp2
  refine HQ.out _ _ ?_
  clear HQ
  refine JO.seq L hfo ?_
  refine JO.pieceQ L (by kernel_rfl) hfo (fun Tp Q HQ => ?_)
  simp only [qLS10, bodyLS, Try.f6, Option.getD_some]
  replace h1 := h1.tp Tp 0
  replace kg2 := blk_tp kg2 Tp 0
  replace fY1 := fY1.tp Tp 0
  replace kY1 := blk_tp kY1 Tp 0
  replace R := R.tp Tp 0
  replace fY2 := fY2.tp Tp 0
  replace kY2 := blk_tp kY2 Tp 0
  replace G3 := G3.tp Tp 0
  have s17 : w16.heap.size ≤ (Tt.tp w16 Tp 0).heap.size := Nat.le_refl _
  generalize Tt.tp w16 Tp 0 = w17 at h1 kg2 fY1 kY1 R fY2 kY2 G3 s17 ⊢
  have once18 : True := trivial
  go_wp2_with (go_at_call 11; clear once18; refine (toRecord_u h1 l1).mono ?_; rintro e w18 ⟨pY4, qY4, rfl, gY4, kY4, jY4, fY4, b18⟩)
  have s18 := b18.size
  replace h1 := h1.below b18
  replace kg2 := (blk_below b18 kg2).1
  replace fY1 := fY1.below b18
  replace kY1 := (blk_below b18 kY1).1
  replace R := R.below b18
  replace fY2 := fY2.below b18
  replace kY2 := (blk_below b18 kY2).1
  replace G3 := G3.below b18
  clear b18
  have uY4 := blk_lt kY4
  have once19 : True := trivial
  go_wp2_with (go_at_call 13; clear once19; refine (eqRecord_u fY2.slc fY4.slc l1 l1).mono ?_; rintro e w19 ⟨rfl, b19⟩; rw [HX0.out])
  have s19 := b19.size
  replace h1 := h1.below b19
  replace kg2 := (blk_below b19 kg2).1
  replace fY1 := fY1.below b19
  replace kY1 := (blk_below b19 kY1).1
  replace R := R.below b19
  replace fY2 := fY2.below b19
  replace kY2 := (blk_below b19 kY2).1
  replace G3 := G3.below b19
  replace fY4 := fY4.below b19
  replace kY4 := (blk_below b19 kY4).1
  clear b19
  go_wp2
  refine HQ.out _ _ ?_
  clear HQ
  refine JO.seq L hfo ?_
  refine JO.pieceQ L (by kernel_rfl) hfo (fun Tp Q HQ => ?_)
  simp only [rLS12, bodyLS, Try.f6, Option.getD_some]
  replace h1 := h1.tp Tp 0
  replace kg2 := blk_tp kg2 Tp 0
  replace fY1 := fY1.tp Tp 0
  replace kY1 := blk_tp kY1 Tp 0
  replace R := R.tp Tp 0
  replace fY2 := fY2.tp Tp 0
  replace kY2 := blk_tp kY2 Tp 0
  replace G3 := G3.tp Tp 0
  replace fY4 := fY4.tp Tp 0
  replace kY4 := blk_tp kY4 Tp 0
  have s20 : w19.heap.size ≤ (Tt.tp w19 Tp 0).heap.size := Nat.le_refl _
  generalize Tt.tp w19 Tp 0 = w20 at h1 kg2 fY1 kY1 R fY2 kY2 G3 fY4 kY4 s20 ⊢
  go_wp2
  refine HQ.out _ _ ?_
  clear HQ
  refine JO.seq L hfo ?_
  refine JO.pieceQ L (by kernel_rfl) hfo (fun Tp Q HQ => ?_)
  simp only [rLS13, bodyLS, Try.f6, Option.getD_some]
  replace h1 := h1.tp Tp 0
  replace kg2 := blk_tp kg2 Tp 0
  replace fY1 := fY1.tp Tp 0
  replace kY1 := blk_tp kY1 Tp 0
  replace R := R.tp Tp 0
  replace fY2 := fY2.tp Tp 0
  replace kY2 := blk_tp kY2 Tp 0
  replace G3 := G3.tp Tp 0
  replace fY4 := fY4.tp Tp 0
  replace kY4 := blk_tp kY4 Tp 0
  have s21 : w20.heap.size ≤ (Tt.tp w20 Tp 0).heap.size := Nat.le_refl _
  generalize Tt.tp w20 Tp 0 = w21 at h1 kg2 fY1 kY1 R fY2 kY2 G3 fY4 kY4 s21 ⊢
  have once22 : True := trivial
  go_wp2_with (go_at_call 22; clear once22; refine (markRecord_u (1) fY2 l1 (by omega)).mono ?_; rintro e w22 ⟨rfl, b22⟩)
  have s22 := b22.size
  clear fY2
  clear kY2
  replace h1 := h1.chg b22 (by omega)
  replace kg2 := blk_chg kg2 b22 (by omega)
  replace fY1 := fY1.chg b22 (by omega)
  replace kY1 := blk_chg kY1 b22 (by omega)
  replace R := R.chg b22 (by omega)
  replace G3 := G3.chg b22 (by omega)
  replace fY4 := fY4.chg b22 (by omega)
  replace kY4 := blk_chg kY4 b22 (by omega)
  clear b22
  go_wp2
  refine HQ.out _ _ ?_
  clear HQ
  refine JO.seq L hfo ?_
  refine JO.pieceQ L (by kernel_rfl) hfo (fun Tp Q HQ => ?_)
  simp only [qLS14, bodyLS, Try.f6, Option.getD_some]
  replace h1 := h1.tp Tp 0
  replace kg2 := blk_tp kg2 Tp 0
  replace fY1 := fY1.tp Tp 0
  replace kY1 := blk_tp kY1 Tp 0
  replace R := R.tp Tp 0
  replace G3 := G3.tp Tp 0
  replace fY4 := fY4.tp Tp 0
  replace kY4 := blk_tp kY4 Tp 0
  have s23 : w22.heap.size ≤ (Tt.tp w22 Tp 0).heap.size := Nat.le_refl _
  generalize Tt.tp w22 Tp 0 = w23 at h1 kg2 fY1 kY1 R G3 fY4 kY4 s23 ⊢
  have once24 : True := trivial
  go_wp2_with (go_at_call 21; clear once24; refine (eqBill_u G3.slc R.slc G3l Rl).mono ?_; rintro e w24 ⟨rfl, b24⟩; rw [HEQ.out])
  have s24 := b24.size
  replace h1 := h1.below b24
  replace kg2 := (blk_below b24 kg2).1
  replace fY1 := fY1.below b24
  replace kY1 := (blk_below b24 kY1).1
  replace R := R.below b24
  replace G3 := G3.below b24
  replace fY4 := fY4.below b24
  replace kY4 := (blk_below b24 kY4).1
  clear b24
  go_wp2
  refine HQ.out _ _ ?_
  clear HQ
  refine JO.seq L hfo ?_
  refine JO.pieceQ L (by kernel_rfl) hfo (fun Tp Q HQ => ?_)
  simp only [rLS16, bodyLS, Try.f6, Option.getD_some]
  replace h1 := h1.tp Tp 0
  replace kg2 := blk_tp kg2 Tp 0
  replace fY1 := fY1.tp Tp 0
  replace kY1 := blk_tp kY1 Tp 0
  replace R := R.tp Tp 0
  replace G3 := G3.tp Tp 0
  replace fY4 := fY4.tp Tp 0
  replace kY4 := blk_tp kY4 Tp 0
  have s25 : w24.heap.size ≤ (Tt.tp w24 Tp 0).heap.size := Nat.le_refl _
  generalize Tt.tp w24 Tp 0 = w25 at h1 kg2 fY1 kY1 R G3 fY4 kY4 s25 ⊢
  go_wp2
  refine HQ.out _ _ ?_
  clear HQ
  refine JO.seq L hfo ?_
  refine JO.pieceQ L (by kernel_rfl) hfo (fun Tp Q HQ => ?_)
  simp only [rLS17, bodyLS, Try.f6, Option.getD_some]
  replace h1 := h1.tp Tp 0
  replace kg2 := blk_tp kg2 Tp 0
  replace fY1 := fY1.tp Tp 0
  replace kY1 := blk_tp kY1 Tp 0
  replace R := R.tp Tp 0
  replace G3 := G3.tp Tp 0
  replace fY4 := fY4.tp Tp 0
  replace kY4 := blk_tp kY4 Tp 0
  have s26 : w25.heap.size ≤ (Tt.tp w25 Tp 0).heap.size := Nat.le_refl _
  generalize Tt.tp w25 Tp 0 = w26 at h1 kg2 fY1 kY1 R G3 fY4 kY4 s26 ⊢
  have once27 : True := trivial
  go_wp2_with (go_at_call 23; clear once27; refine (markBill_u (1) G3 G3l (by omega)).mono ?_; rintro e w27 ⟨rfl, fm6, b27⟩)
  have s27 := b27.size
  clear G3
  replace h1 := h1.chg b27 (by omega)
  replace kg2 := blk_chg kg2 b27 (by omega)
  replace fY1 := fY1.chg b27 (by omega)
  replace kY1 := blk_chg kY1 b27 (by omega)
  replace R := R.chg b27 (by omega)
  replace fY4 := fY4.chg b27 (by omega)
  replace kY4 := blk_chg kY4 b27 (by omega)
  clear b27
  go_wp2
  refine HQ.out _ _ ?_
  clear HQ
  refine JO.seq L hfo ?_
  refine JO.pieceQ L (by kernel_rfl) hfo (fun Tp Q HQ => ?_)
  simp only [rLS18, bodyLS, Try.f6, Option.getD_some]
  replace h1 := h1.tp Tp 0
  replace kg2 := blk_tp kg2 Tp 0
  replace fY1 := fY1.tp Tp 0
  replace kY1 := blk_tp kY1 Tp 0
  replace R := R.tp Tp 0
  replace fY4 := fY4.tp Tp 0
  replace kY4 := blk_tp kY4 Tp 0
  replace fm6 := fm6.tp Tp 0
  have s28 : w27.heap.size ≤ (Tt.tp w27 Tp 0).heap.size := Nat.le_refl _
  generalize Tt.tp w27 Tp 0 = w28 at h1 kg2 fY1 kY1 R fY4 kY4 fm6 s28 ⊢
  go_wp2
  refine HQ.out _ _ ?_
  clear HQ
  refine JO.seq L hfo ?_
  refine JO.pieceQ L (by kernel_rfl) hfo (fun Tp Q HQ => ?_)
  simp only [rLS19, bodyLS, Try.f6, Option.getD_some]
  replace h1 := h1.tp Tp 0
  replace kg2 := blk_tp kg2 Tp 0
  replace fY1 := fY1.tp Tp 0
  replace kY1 := blk_tp kY1 Tp 0
  replace R := R.tp Tp 0
  replace fY4 := fY4.tp Tp 0
  replace kY4 := blk_tp kY4 Tp 0
  replace fm6 := fm6.tp Tp 0
  have s29 : w28.heap.size ≤ (Tt.tp w28 Tp 0).heap.size := Nat.le_refl _
  generalize Tt.tp w28 Tp 0 = w29 at h1 kg2 fY1 kY1 R fY4 kY4 fm6 s29 ⊢
  have once30 : True := trivial
  go_wp2_with (go_at_call 24; clear once30; refine (heldBill_u 1 fm6 G3l (by omega)).mono ?_; rintro e w30 ⟨rfl, b30⟩)
  have s30 := b30.size
  replace h1 := h1.below b30
  replace kg2 := (blk_below b30 kg2).1
  replace fY1 := fY1.below b30
  replace kY1 := (blk_below b30 kY1).1
  replace R := R.below b30
  replace fY4 := fY4.below b30
  replace kY4 := (blk_below b30 kY4).1
  replace fm6 := fm6.below b30
  clear b30
  go_wp2
  refine HQ.out _ _ ?_
  clear HQ
  refine JO.seq L hfo ?_
  refine JO.pieceQ L (by kernel_rfl) hfo (fun Tp Q HQ => ?_)
  simp only [qLS20, bodyLS, Try.f6, Option.getD_some]
  replace h1 := h1.tp Tp 0
  replace kg2 := blk_tp kg2 Tp 0
  replace fY1 := fY1.tp Tp 0
  replace kY1 := blk_tp kY1 Tp 0
  replace R := R.tp Tp 0
  replace fY4 := fY4.tp Tp 0
  replace kY4 := blk_tp kY4 Tp 0
  replace fm6 := fm6.tp Tp 0
  have s31 : w30.heap.size ≤ (Tt.tp w30 Tp 0).heap.size := Nat.le_refl _
  generalize Tt.tp w30 Tp 0 = w31 at h1 kg2 fY1 kY1 R fY4 kY4 fm6 s31 ⊢
  go_wp2
  refine HQ.out _ _ ?_
  clear HQ
  refine JO.seq L hfo ?_
  refine JO.pieceQ L (by kernel_rfl) hfo (fun Tp Q HQ => ?_)
  simp only [qLS22, bodyLS, Try.f6, Option.getD_some]
  replace h1 := h1.tp Tp 0
  replace kg2 := blk_tp kg2 Tp 0
  replace fY1 := fY1.tp Tp 0
  replace kY1 := blk_tp kY1 Tp 0
  replace R := R.tp Tp 0
  replace fY4 := fY4.tp Tp 0
  replace kY4 := blk_tp kY4 Tp 0
  replace fm6 := fm6.tp Tp 0
  have s32 : w31.heap.size ≤ (Tt.tp w31 Tp 0).heap.size := Nat.le_refl _
  generalize Tt.tp w31 Tp 0 = w32 at h1 kg2 fY1 kY1 R fY4 kY4 fm6 s32 ⊢
  go_wp2
  refine HQ.out _ _ ?_
  clear HQ
  refine JO.seq L hfo ?_
  rw [rLS24_eq]
  refine JO.reg L hfo ?_
  rw [opsLS24_range]
  refine JO.opv L (v := .agg #[.int .i64 T.f, .int .i64 T.s, .int .i64 T.p]) hfo opsLS24_0 rfl (fun T' e => exec_load (w := Tt.tp w32 T' e) (t := 30) (x := .tmp 2) (b := g2) rfl kg2 rfl Try.underlying30 rfl (by kernel_rfl)) ?_
  simp only [Go.Act.put, List.setIfInBounds_toArray, List.set_cons_zero, List.set_cons_succ]
  refine JO.callV L (xs := #[.agg #[.int .i64 T.f, .int .i64 T.s, .int .i64 T.p]]) (Q := ToTariffQ T.f T.s T.p w32) rfl rfl opsLS24_1 rfl rfl (by kernel_rfl) hfo (by kernel_rfl) (by simp [Fm.eval]) (fun v w' T e h => ToTariffQ.tp h T e) (toTariff_q T.f T.s T.p w32) (fun v w33 hq => ?_)
  obtain ⟨rfl, b33⟩ := hq
  have s33 := b33.size
  replace h1 := h1.bls b33 (Nat.le_refl _)
  replace kg2 := blk_bl b33 kg2 (blk_lt kg2)
  replace fY1 := fY1.bls b33 (Nat.le_refl _)
  replace kY1 := blk_bl b33 kY1 (blk_lt kY1)
  replace R := R.bls b33 (Nat.le_refl _)
  replace fY4 := fY4.bls b33 (Nat.le_refl _)
  replace kY4 := blk_bl b33 kY4 (blk_lt kY4)
  replace fm6 := fm6.bls b33 (Nat.le_refl _)
  clear b33
  simp only [Fm.fin, opsLS24_1, Option.bind_some, List.setIfInBounds_toArray, List.set_cons_zero, List.set_cons_succ]
  refine JO.opv L (v := .slice A n cap) hfo opsLS24_2 rfl (fun T e => rfl) ?_
  simp only [Go.Act.put, List.setIfInBounds_toArray, List.set_cons_zero, List.set_cons_succ]
  refine JO.callV L (xs := #[.slice A n cap]) (Q := ToRecordQ w33 n rs) rfl rfl opsLS24_3 rfl rfl (by kernel_rfl) hfo (by kernel_rfl) (by simp [Fm.eval]) (fun v w' T e h => ToRecordQ.tp h T e) (toRecord_q h1 l1) (fun v w34 hq => ?_)
  obtain ⟨pY7, qY7, rfl, gY7, kY7, jY7, fY7, b34⟩ := hq
  have s34 := b34.size
  replace h1 := h1.bls b34 (Nat.le_refl _)
  replace kg2 := blk_bl b34 kg2 (blk_lt kg2)
  replace fY1 := fY1.bls b34 (Nat.le_refl _)
  replace kY1 := blk_bl b34 kY1 (blk_lt kY1)
  replace R := R.bls b34 (Nat.le_refl _)
  replace fY4 := fY4.bls b34 (Nat.le_refl _)
  replace kY4 := blk_bl b34 kY4 (blk_lt kY4)
  replace fm6 := fm6.bls b34 (Nat.le_refl _)
  clear b34
  have uY7 := blk_lt kY7
  simp only [Fm.fin, opsLS24_3, Option.bind_some, List.setIfInBounds_toArray, List.set_cons_zero, List.set_cons_succ]
  refine jo_bills (ops := opsLS24) (i := 4) (o := oLS24_4) (src := some ⟨pY7, 0, qY7, 50, (0, 0)⟩) (rs := rs) (T := T) rfl hfo rfl opsLS24_4 rfl rfl (by simp [Fm.eval]) ⟨rfl, kY7, fun v hv => recs_plain v (by rw [← jY7]; simpa using hv)⟩ (fun b' e => by cases e; show _ ≤ pY7; omega) (fY7.slc.wide (Nat.zero_le _) (by omega)) l1 (fun G8A G8n G8c w35 b35 G8 => ?_)
  have s35 := b35.size
  replace h1 := h1.bls b35 (Nat.le_refl _)
  replace kg2 := blk_bl b35 kg2 (blk_lt kg2)
  replace fY1 := fY1.bls b35 (Nat.le_refl _)
  replace kY1 := blk_bl b35 kY1 (blk_lt kY1)
  replace R := R.bls b35 (Nat.le_refl _)
  replace fY4 := fY4.bls b35 (Nat.le_refl _)
  replace kY4 := blk_bl b35 kY4 (blk_lt kY4)
  replace fm6 := fm6.bls b35 (Nat.le_refl _)
  replace fY7 := fY7.bls b35 (Nat.le_refl _)
  replace kY7 := blk_bl b35 kY7 (blk_lt kY7)
  clear b35
  have G8l : G8n ≤ 1048576 := by have := G8.slc.billsLen; have := HLEN.out; omega
  simp only [Fm.fin, opsLS24_4, Option.bind_some, List.setIfInBounds_toArray, List.set_cons_zero, List.set_cons_succ]
  refine JO.opv L (v := .tuple #[.slice G8A G8n G8c, .bool (billOk T rs)]) hfo opsLS24_5 rfl (fun T e => rfl) ?_
  simp only [Go.Act.put, List.setIfInBounds_toArray, List.set_cons_zero, List.set_cons_succ]
  refine JO.opv L (v := .slice G8A G8n G8c) hfo opsLS24_6 rfl (fun T e => rfl) ?_
  simp only [Go.Act.put, List.setIfInBounds_toArray, List.set_cons_zero, List.set_cons_succ]
  refine JO.opv L (v := .bool (billOk T rs)) hfo opsLS24_7 rfl (fun T e => rfl) ?_
  simp only [Go.Act.put, List.setIfInBounds_toArray, List.set_cons_zero, List.set_cons_succ]
  refine JO.opv L (v := .slice G8A G8n G8c) hfo opsLS24_8 rfl (fun T e => rfl) ?_
  simp only [Go.Act.put, List.setIfInBounds_toArray, List.set_cons_zero, List.set_cons_succ]
  refine JO.opv L (v := .bool (billOk T rs)) hfo opsLS24_9 rfl (fun T e => rfl) ?_
  simp only [Go.Act.put, List.setIfInBounds_toArray, List.set_cons_zero, List.set_cons_succ]
  refine JO.regEnd L hfo ?_
  refine JO.tailQ L (by kernel_rfl) hfo (fun Tp Q HQ => ?_)
  simp only [tLS, bodyLS, Try.f6, Option.getD_some]
  replace h1 := h1.tp Tp 0
  replace kg2 := blk_tp kg2 Tp 0
  replace fY1 := fY1.tp Tp 0
  replace kY1 := blk_tp kY1 Tp 0
  replace R := R.tp Tp 0
  replace fY4 := fY4.tp Tp 0
  replace kY4 := blk_tp kY4 Tp 0
  replace fm6 := fm6.tp Tp 0
  replace fY7 := fY7.tp Tp 0
  replace kY7 := blk_tp kY7 Tp 0
  replace G8 := G8.tp Tp 0
  have s36 : w35.heap.size ≤ (Tt.tp w35 Tp 0).heap.size := Nat.le_refl _
  generalize Tt.tp w35 Tp 0 = w36 at h1 kg2 fY1 kY1 R fY4 kY4 fm6 fY7 kY7 G8 s36 ⊢
  have once37 : True := trivial
  go_wp2_with (go_at_call 21; clear once37; refine (eqBill_u G8.slc R.slc G8l Rl).mono ?_; rintro e w37 ⟨rfl, b37⟩; rw [HEQ.out])
  have s37 := b37.size
  replace h1 := h1.below b37
  replace kg2 := (blk_below b37 kg2).1
  replace fY1 := fY1.below b37
  replace kY1 := (blk_below b37 kY1).1
  replace R := R.below b37
  replace fY4 := fY4.below b37
  replace kY4 := (blk_below b37 kY4).1
  replace fm6 := fm6.below b37
  replace fY7 := fY7.below b37
  replace kY7 := (blk_below b37 kY7).1
  replace G8 := G8.below b37
  clear b37
  have once38 : True := trivial
  go_wp2_with (go_at_call 24; clear once38; refine (heldBill_u 1 fm6 G3l (by omega)).mono ?_; rintro e w38 ⟨rfl, b38⟩)
  have s38 := b38.size
  replace h1 := h1.below b38
  replace kg2 := (blk_below b38 kg2).1
  replace fY1 := fY1.below b38
  replace kY1 := (blk_below b38 kY1).1
  replace R := R.below b38
  replace fY4 := fY4.below b38
  replace kY4 := (blk_below b38 kY4).1
  replace fm6 := fm6.below b38
  replace fY7 := fY7.below b38
  replace kY7 := (blk_below b38 kY7).1
  replace G8 := G8.below b38
  clear b38
  go_wp2
  refine HQ.out _ _ (fun todo => ?_)
  exact hend _ _ _ rfl
end
end Go.Proofs.Ytjcpjijihajopaa
