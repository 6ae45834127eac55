/-
  Part 13 of what stands behind the last text.
-/
import Derived.Test.YtjcpjijihajopaaFWaitPq12
set_option linter.unusedSectionVars false
set_option linter.unusedSimpArgs false
set_option linter.unusedVariables false
namespace Go.Proofs.Ytjcpjijihajopaa
open Go.RowKit Go.Mt Go.Conc Go.Tt Go.Maps
set_option linter.unusedVariables false
noncomputable def bodyFW : Go.Code := (Try.f7.body).getD .skip
noncomputable def rFW0 : Go.Code := match bodyFW with | .seq (a) _ => a | _ => .skip
noncomputable def rFW1 : Go.Code := match bodyFW with | .seq _ (.seq (.seq (a) _) _) => a | _ => .skip
noncomputable def rFW2 : Go.Code := match bodyFW with | .seq _ (.seq (.seq _ (.cond _ (.seq (a) _) _)) _) => a | _ => .skip
noncomputable def rFW3 : Go.Code := match bodyFW with | .seq _ (.seq _ (.seq (a) _)) => a | _ => .skip
noncomputable def rFW4 : Go.Code := match bodyFW with | .seq _ (.seq _ (.seq _ (.seq (a) _))) => a | _ => .skip
noncomputable def rFW5 : Go.Code := match bodyFW with | .seq _ (.seq _ (.seq _ (.seq _ (.seq (a) _)))) => a | _ => .skip
noncomputable def rFW6 : Go.Code := match bodyFW with | .seq _ (.seq _ (.seq _ (.seq _ (.seq _ (.seq (.seq (a) _) _))))) => a | _ => .skip
noncomputable def rFW7 : Go.Code := match bodyFW with | .seq _ (.seq _ (.seq _ (.seq _ (.seq _ (.seq (.seq _ (.cond _ (.seq (a) _) _)) _))))) => a | _ => .skip
noncomputable def rFW8 : Go.Code := match bodyFW with | .seq _ (.seq _ (.seq _ (.seq _ (.seq _ (.seq _ (.seq (a) _)))))) => a | _ => .skip
noncomputable def rFW9 : Go.Code := match bodyFW with | .seq _ (.seq _ (.seq _ (.seq _ (.seq _ (.seq _ (.seq _ (.seq (a) _))))))) => a | _ => .skip
theorem bodyFW_eq : bodyFW = .seq (rFW0) (.seq (.seq (rFW1) (.cond (.tmp 11) (.seq (rFW2) (.ret)) (.skip))) (.seq (rFW3) (.seq (rFW4) (.seq (rFW5) (.seq (.seq (rFW6) (.cond (.tmp 41) (.seq (rFW7) (.ret)) (.skip))) (.seq (rFW8) (.seq (rFW9) (.ret)))))))) := rfl
noncomputable def opsFW4 : Array Oper := match rFW4 with | .region _ ops _ => ops | _ => #[]
theorem rFW4_eq : rFW4 = .region 4 opsFW4 false := rfl
theorem opsFW4_range : List.range opsFW4.size = [0, 1, 2, 3, 4] := rfl
abbrev oFW4_0 : Oper := { dst := some 18, op := Go.Op.move (Go.Operand.tmp 3), type := 25, pos := "laws.go:1440", after := #[], guard := none }
theorem opsFW4_0 : opsFW4[0]? = some oFW4_0 := rfl
abbrev oFW4_1 : Oper := { dst := some 19, op := Go.Op.move (Go.Operand.tmp 4), type := 3, pos := "laws.go:1440", after := #[], guard := none }
theorem opsFW4_1 : opsFW4[1]? = some oFW4_1 := rfl
abbrev oFW4_2 : Oper := { dst := some 20, op := Go.Op.move (Go.Operand.tmp 5), type := 3, pos := "laws.go:1440", after := #[], guard := none }
theorem opsFW4_2 : opsFW4[2]? = some oFW4_2 := rfl
abbrev oFW4_3 : Oper := { dst := some 21, op := Go.Op.call { callee := Go.Callee.value (Go.Operand.func 15), args := #[Go.Operand.tmp 18, Go.Operand.tmp 19, Go.Operand.tmp 20], argTypes := #[25, 3, 3] }, type := 3, pos := "laws.go:1440", after := #[{ on := 0, ground := Go.Ground.data }, { on := 1, ground := Go.Ground.data }, { on := 2, ground := Go.Ground.data }], guard := none }
theorem opsFW4_3 : opsFW4[3]? = some oFW4_3 := rfl
abbrev oFW4_4 : Oper := { dst := some 6, op := Go.Op.assign (Go.Operand.tmp 21), type := 3, pos := "laws.go:1440", after := #[{ on := 3, ground := Go.Ground.data }, { on := 3, ground := Go.Ground.chain }, { on := 0, ground := Go.Ground.phase }, { on := 1, ground := Go.Ground.phase }, { on := 2, ground := Go.Ground.phase }, { on := 3, ground := Go.Ground.phase }], guard := none }
theorem opsFW4_4 : opsFW4[4]? = some oFW4_4 := rfl
noncomputable def opsFW5 : Array Oper := match rFW5 with | .region _ ops _ => ops | _ => #[]
theorem rFW5_eq : rFW5 = .region 5 opsFW5 false := rfl
theorem opsFW5_range : List.range opsFW5.size = [0, 1, 2, 3] := rfl
abbrev oFW5_0 : Oper := { dst := some 22, op := Go.Op.move (Go.Operand.tmp 3), type := 25, pos := "laws.go:1441", after := #[], guard := none }
theorem opsFW5_0 : opsFW5[0]? = some oFW5_0 := rfl
abbrev oFW5_1 : Oper := { dst := some 23, op := Go.Op.move (Go.Operand.tmp 5), type := 3, pos := "laws.go:1441", after := #[], guard := none }
theorem opsFW5_1 : opsFW5[1]? = some oFW5_1 := rfl
abbrev oFW5_2 : Oper := { dst := some 24, op := Go.Op.call { callee := Go.Callee.value (Go.Operand.func 12), args := #[Go.Operand.tmp 22, Go.Operand.const (Go.Value.int Go.IntKind.i64 1), Go.Operand.tmp 23], argTypes := #[25, 3, 3] }, type := 3, pos := "laws.go:1441", after := #[{ on := 0, ground := Go.Ground.data }, { on := 1, ground := Go.Ground.data }], guard := none }
theorem opsFW5_2 : opsFW5[2]? = some oFW5_2 := rfl
abbrev oFW5_3 : Oper := { dst := some 7, op := Go.Op.assign (Go.Operand.tmp 24), type := 3, pos := "laws.go:1441", after := #[{ on := 2, ground := Go.Ground.data }, { on := 2, ground := Go.Ground.chain }, { on := 0, ground := Go.Ground.phase }, { on := 1, ground := Go.Ground.phase }, { on := 2, ground := Go.Ground.phase }], guard := none }
theorem opsFW5_3 : opsFW5[3]? = some oFW5_3 := rfl
noncomputable def opsFW9 : Array Oper := match rFW9 with | .region _ ops _ => ops | _ => #[]
theorem rFW9_eq : rFW9 = .region 9 opsFW9 true := rfl
abbrev oFW9_0 : Oper := { dst := some 58, op := Go.Op.move (Go.Operand.tmp 6), type := 3, pos := "laws.go:1446", after := #[], guard := none }
abbrev oFW9_1 : Oper := { dst := some 59, op := Go.Op.move (Go.Operand.tmp 3), type := 25, pos := "laws.go:1446", after := #[], guard := none }
abbrev oFW9_2 : Oper := { dst := some 60, op := Go.Op.move (Go.Operand.tmp 8), type := 3, pos := "laws.go:1446", after := #[], guard := none }
abbrev oFW9_3 : Oper := { dst := some 61, op := Go.Op.slice 25 (Go.Operand.tmp 59) none (some (Go.Operand.tmp 60)) none, type := 25, pos := "laws.go:1446", after := #[{ on := 1, ground := Go.Ground.data }, { on := 2, ground := Go.Ground.data }], guard := none }
abbrev oFW9_4 : Oper := { dst := some 62, op := Go.Op.move (Go.Operand.tmp 4), type := 3, pos := "laws.go:1446", after := #[], guard := none }
abbrev oFW9_5 : Oper := { dst := some 63, op := Go.Op.move (Go.Operand.tmp 5), type := 3, pos := "laws.go:1446", after := #[], guard := none }
abbrev oFW9_6 : Oper := { dst := some 64, op := Go.Op.call { callee := Go.Callee.value (Go.Operand.func 15), args := #[Go.Operand.tmp 61, Go.Operand.tmp 62, Go.Operand.tmp 63], argTypes := #[25, 3, 3] }, type := 3, pos := "laws.go:1446", after := #[{ on := 3, ground := Go.Ground.data }, { on := 4, ground := Go.Ground.data }, { on := 5, ground := Go.Ground.data }], guard := none }
theorem opsFW9_6 : opsFW9[6]? = some oFW9_6 := rfl
abbrev oFW9_7 : Oper := { dst := some 65, op := Go.Op.move (Go.Operand.tmp 3), type := 25, pos := "laws.go:1446", after := #[], guard := none }
abbrev oFW9_8 : Oper := { dst := some 66, op := Go.Op.move (Go.Operand.tmp 8), type := 3, pos := "laws.go:1446", after := #[], guard := none }
abbrev oFW9_9 : Oper := { dst := some 67, op := Go.Op.slice 25 (Go.Operand.tmp 65) (some (Go.Operand.tmp 66)) none none, type := 25, pos := "laws.go:1446", after := #[{ on := 7, ground := Go.Ground.data }, { on := 8, ground := Go.Ground.data }], guard := none }
abbrev oFW9_10 : Oper := { dst := some 68, op := Go.Op.move (Go.Operand.tmp 4), type := 3, pos := "laws.go:1446", after := #[], guard := none }
abbrev oFW9_11 : Oper := { dst := some 69, op := Go.Op.move (Go.Operand.tmp 5), type := 3, pos := "laws.go:1446", after := #[], guard := none }
abbrev oFW9_12 : Oper := { dst := some 70, op := Go.Op.call { callee := Go.Callee.value (Go.Operand.func 15), args := #[Go.Operand.tmp 67, Go.Operand.tmp 68, Go.Operand.tmp 69], argTypes := #[25, 3, 3] }, type := 3, pos := "laws.go:1446", after := #[{ on := 9, ground := Go.Ground.data }, { on := 10, ground := Go.Ground.data }, { on := 11, ground := Go.Ground.data }, { on := 6, ground := Go.Ground.chain }], guard := none }
theorem opsFW9_12 : opsFW9[12]? = some oFW9_12 := rfl
abbrev oFW9_13 : Oper := { dst := some 71, op := Go.Op.binOp Go.BinOp.add 3 (Go.Operand.tmp 64) (Go.Operand.tmp 70) 3, type := 3, pos := "laws.go:1446", after := #[{ on := 6, ground := Go.Ground.data }, { on := 12, ground := Go.Ground.data }], guard := none }
abbrev oFW9_14 : Oper := { dst := some 72, op := Go.Op.binOp Go.BinOp.eql 3 (Go.Operand.tmp 58) (Go.Operand.tmp 71) 3, type := 4, pos := "laws.go:1446", after := #[{ on := 0, ground := Go.Ground.data }, { on := 13, ground := Go.Ground.data }], guard := none }
abbrev oFW9_15 : Oper := { dst := some 73, op := Go.Op.move (Go.Operand.tmp 72), type := 4, pos := "laws.go:1446", after := #[{ on := 14, ground := Go.Ground.data }, { on := 12, ground := Go.Ground.chain }], guard := none }
theorem opsFW9_15 : opsFW9[15]? = some oFW9_15 := rfl
abbrev oFW9_16 : Oper := { dst := some 74, op := Go.Op.move (Go.Operand.tmp 7), type := 3, pos := "laws.go:1446", after := #[{ on := 15, ground := Go.Ground.guard }], guard := some (15, true) }
abbrev oFW9_17 : Oper := { dst := some 75, op := Go.Op.move (Go.Operand.tmp 3), type := 25, pos := "laws.go:1446", after := #[{ on := 15, ground := Go.Ground.guard }], guard := some (15, true) }
abbrev oFW9_18 : Oper := { dst := some 76, op := Go.Op.move (Go.Operand.tmp 8), type := 3, pos := "laws.go:1446", after := #[{ on := 15, ground := Go.Ground.guard }], guard := some (15, true) }
abbrev oFW9_19 : Oper := { dst := some 77, op := Go.Op.slice 25 (Go.Operand.tmp 75) none (some (Go.Operand.tmp 76)) none, type := 25, pos := "laws.go:1446", after := #[{ on := 17, ground := Go.Ground.data }, { on := 18, ground := Go.Ground.data }, { on := 15, ground := Go.Ground.guard }], guard := some (15, true) }
abbrev oFW9_20 : Oper := { dst := some 78, op := Go.Op.move (Go.Operand.tmp 5), type := 3, pos := "laws.go:1446", after := #[{ on := 15, ground := Go.Ground.guard }], guard := some (15, true) }
abbrev oFW9_21 : Oper := { dst := some 79, op := Go.Op.call { callee := Go.Callee.value (Go.Operand.func 12), args := #[Go.Operand.tmp 77, Go.Operand.const (Go.Value.int Go.IntKind.i64 1), Go.Operand.tmp 78], argTypes := #[25, 3, 3] }, type := 3, pos := "laws.go:1446", after := #[{ on := 19, ground := Go.Ground.data }, { on := 20, ground := Go.Ground.data }, { on := 15, ground := Go.Ground.chain }, { on := 15, ground := Go.Ground.guard }], guard := some (15, true) }
theorem opsFW9_21 : opsFW9[21]? = some oFW9_21 := rfl
abbrev oFW9_22 : Oper := { dst := some 80, op := Go.Op.move (Go.Operand.tmp 3), type := 25, pos := "laws.go:1446", after := #[{ on := 15, ground := Go.Ground.guard }], guard := some (15, true) }
abbrev oFW9_23 : Oper := { dst := some 81, op := Go.Op.move (Go.Operand.tmp 8), type := 3, pos := "laws.go:1446", after := #[{ on := 15, ground := Go.Ground.guard }], guard := some (15, true) }
abbrev oFW9_24 : Oper := { dst := some 82, op := Go.Op.slice 25 (Go.Operand.tmp 80) (some (Go.Operand.tmp 81)) none none, type := 25, pos := "laws.go:1446", after := #[{ on := 22, ground := Go.Ground.data }, { on := 23, ground := Go.Ground.data }, { on := 15, ground := Go.Ground.guard }], guard := some (15, true) }
abbrev oFW9_25 : Oper := { dst := some 83, op := Go.Op.move (Go.Operand.tmp 5), type := 3, pos := "laws.go:1446", after := #[{ on := 15, ground := Go.Ground.guard }], guard := some (15, true) }
abbrev oFW9_26 : Oper := { dst := some 84, op := Go.Op.call { callee := Go.Callee.value (Go.Operand.func 12), args := #[Go.Operand.tmp 82, Go.Operand.const (Go.Value.int Go.IntKind.i64 1), Go.Operand.tmp 83], argTypes := #[25, 3, 3] }, type := 3, pos := "laws.go:1446", after := #[{ on := 24, ground := Go.Ground.data }, { on := 25, ground := Go.Ground.data }, { on := 21, ground := Go.Ground.chain }, { on := 15, ground := Go.Ground.guard }], guard := some (15, true) }
theorem opsFW9_26 : opsFW9[26]? = some oFW9_26 := rfl
abbrev oFW9_27 : Oper := { dst := some 85, op := Go.Op.binOp Go.BinOp.add 3 (Go.Operand.tmp 79) (Go.Operand.tmp 84) 3, type := 3, pos := "laws.go:1446", after := #[{ on := 21, ground := Go.Ground.data }, { on := 26, ground := Go.Ground.data }, { on := 15, ground := Go.Ground.guard }], guard := some (15, true) }
abbrev oFW9_28 : Oper := { dst := some 86, op := Go.Op.binOp Go.BinOp.eql 3 (Go.Operand.tmp 74) (Go.Operand.tmp 85) 3, type := 4, pos := "laws.go:1446", after := #[{ on := 16, ground := Go.Ground.data }, { on := 27, ground := Go.Ground.data }, { on := 15, ground := Go.Ground.guard }], guard := some (15, true) }
abbrev oFW9_29 : Oper := { dst := some 87, op := Go.Op.pick (Go.Operand.tmp 73) (Go.Operand.tmp 86) (Go.Operand.const (Go.Value.bool false)), type := 4, pos := "laws.go:1446", after := #[{ on := 15, ground := Go.Ground.data }, { on := 28, ground := Go.Ground.data }], guard := none }
abbrev oFW9_30 : Oper := { dst := some 88, op := Go.Op.move (Go.Operand.tmp 87), type := 4, pos := "laws.go:1446", after := #[{ on := 29, ground := Go.Ground.data }, { on := 26, ground := Go.Ground.chain }], guard := none }
theorem opsFW9_30 : opsFW9[30]? = some oFW9_30 := rfl
abbrev oFW9_31 : Oper := { dst := some 89, op := Go.Op.move (Go.Operand.tmp 5), type := 3, pos := "laws.go:1446", after := #[{ on := 30, ground := Go.Ground.guard }], guard := some (30, true) }
abbrev oFW9_32 : Oper := { dst := some 90, op := Go.Op.binOp Go.BinOp.eql 3 (Go.Operand.tmp 89) (Go.Operand.const (Go.Value.int Go.IntKind.i64 3600)) 3, type := 4, pos := "laws.go:1446", after := #[{ on := 31, ground := Go.Ground.data }, { on := 30, ground := Go.Ground.guard }], guard := some (30, true) }
abbrev oFW9_33 : Oper := { dst := some 91, op := Go.Op.move (Go.Operand.tmp 90), type := 4, pos := "laws.go:1446", after := #[{ on := 32, ground := Go.Ground.data }, { on := 30, ground := Go.Ground.chain }, { on := 30, ground := Go.Ground.guard }], guard := some (30, true) }
theorem opsFW9_33 : opsFW9[33]? = some oFW9_33 := rfl
abbrev oFW9_34 : Oper := { dst := some 92, op := Go.Op.move (Go.Operand.tmp 3), type := 25, pos := "laws.go:1446", after := #[{ on := 33, ground := Go.Ground.guard }], guard := some (33, false) }
abbrev oFW9_35 : Oper := { dst := some 93, op := Go.Op.move (Go.Operand.tmp 4), type := 3, pos := "laws.go:1446", after := #[{ on := 33, ground := Go.Ground.guard }], guard := some (33, false) }
abbrev oFW9_36 : Oper := { dst := some 94, op := Go.Op.move (Go.Operand.tmp 5), type := 3, pos := "laws.go:1446", after := #[{ on := 33, ground := Go.Ground.guard }], guard := some (33, false) }
abbrev oFW9_37 : Oper := { dst := some 95, op := Go.Op.binOp Go.BinOp.add 3 (Go.Operand.tmp 94) (Go.Operand.const (Go.Value.int Go.IntKind.i64 1)) 3, type := 3, pos := "laws.go:1446", after := #[{ on := 36, ground := Go.Ground.data }, { on := 33, ground := Go.Ground.guard }], guard := some (33, false) }
abbrev oFW9_38 : Oper := { dst := some 96, op := Go.Op.call { callee := Go.Callee.value (Go.Operand.func 15), args := #[Go.Operand.tmp 92, Go.Operand.tmp 93, Go.Operand.tmp 95], argTypes := #[25, 3, 3] }, type := 3, pos := "laws.go:1446", after := #[{ on := 34, ground := Go.Ground.data }, { on := 35, ground := Go.Ground.data }, { on := 37, ground := Go.Ground.data }, { on := 33, ground := Go.Ground.chain }, { on := 33, ground := Go.Ground.guard }], guard := some (33, false) }
theorem opsFW9_38 : opsFW9[38]? = some oFW9_38 := rfl
abbrev oFW9_39 : Oper := { dst := some 97, op := Go.Op.move (Go.Operand.tmp 6), type := 3, pos := "laws.go:1446", after := #[{ on := 33, ground := Go.Ground.guard }], guard := some (33, false) }
abbrev oFW9_40 : Oper := { dst := some 98, op := Go.Op.binOp Go.BinOp.geq 3 (Go.Operand.tmp 96) (Go.Operand.tmp 97) 3, type := 4, pos := "laws.go:1446", after := #[{ on := 38, ground := Go.Ground.data }, { on := 39, ground := Go.Ground.data }, { on := 33, ground := Go.Ground.guard }], guard := some (33, false) }
abbrev oFW9_41 : Oper := { dst := some 99, op := Go.Op.pick (Go.Operand.tmp 91) (Go.Operand.const (Go.Value.bool true)) (Go.Operand.tmp 98), type := 4, pos := "laws.go:1446", after := #[{ on := 33, ground := Go.Ground.data }, { on := 40, ground := Go.Ground.data }, { on := 30, ground := Go.Ground.guard }], guard := some (30, true) }
abbrev oFW9_42 : Oper := { dst := some 100, op := Go.Op.pick (Go.Operand.tmp 88) (Go.Operand.tmp 99) (Go.Operand.const (Go.Value.bool false)), type := 4, pos := "laws.go:1446", after := #[{ on := 30, ground := Go.Ground.data }, { on := 41, ground := Go.Ground.data }], guard := none }
abbrev oFW9_43 : Oper := { dst := some 2, op := Go.Op.assign (Go.Operand.tmp 100), type := 4, pos := "laws.go:1446", after := #[{ on := 42, ground := Go.Ground.data }, { on := 38, ground := Go.Ground.chain }, { on := 0, ground := Go.Ground.phase }, { on := 1, ground := Go.Ground.phase }, { on := 2, ground := Go.Ground.phase }, { on := 3, ground := Go.Ground.phase }, { on := 4, ground := Go.Ground.phase }, { on := 5, ground := Go.Ground.phase }, { on := 6, ground := Go.Ground.phase }, { on := 7, ground := Go.Ground.phase }, { on := 8, ground := Go.Ground.phase }, { on := 9, ground := Go.Ground.phase }, { on := 10, ground := Go.Ground.phase }, { on := 11, ground := Go.Ground.phase }, { on := 12, ground := Go.Ground.phase }, { on := 13, ground := Go.Ground.phase }, { on := 14, ground := Go.Ground.phase }, { on := 15, ground := Go.Ground.phase }, { on := 16, ground := Go.Ground.phase }, { on := 17, ground := Go.Ground.phase }, { on := 18, ground := Go.Ground.phase }, { on := 19, ground := Go.Ground.phase }, { on := 20, ground := Go.Ground.phase }, { on := 21, ground := Go.Ground.phase }, { on := 22, ground := Go.Ground.phase }, { on := 23, ground := Go.Ground.phase }, { on := 24, ground := Go.Ground.phase }, { on := 25, ground := Go.Ground.phase }, { on := 26, ground := Go.Ground.phase }, { on := 27, ground := Go.Ground.phase }, { on := 28, ground := Go.Ground.phase }, { on := 29, ground := Go.Ground.phase }, { on := 30, ground := Go.Ground.phase }, { on := 31, ground := Go.Ground.phase }, { on := 32, ground := Go.Ground.phase }, { on := 33, ground := Go.Ground.phase }, { on := 34, ground := Go.Ground.phase }, { on := 35, ground := Go.Ground.phase }, { on := 36, ground := Go.Ground.phase }, { on := 37, ground := Go.Ground.phase }, { on := 38, ground := Go.Ground.phase }, { on := 39, ground := Go.Ground.phase }, { on := 40, ground := Go.Ground.phase }, { on := 41, ground := Go.Ground.phase }, { on := 42, ground := Go.Ground.phase }], guard := none }
theorem opsFW9_ok : ordOk opsFW9 = true := by kernel_rfl
theorem opsFW9_sz : ∀ s, isDst opsFW9 s = true → s < 101 := by
  intro s hs
  unfold isDst at hs
  rw [Array.any_eq_true] at hs
  obtain ⟨i, hi, e⟩ := hs
  have h2 : (opsFW9.all fun o => match o.dst with | some d => decide (d < 101) | none => true) = true := by kernel_rfl
  have h3 := Array.all_eq_true.1 h2 i hi
  have e2 : opsFW9[i].dst = some s := by simpa using e
  rw [e2] at h3
  simpa using h3
structure DFW9 (V : Nat → Value) (gR m cp H : Nat) (rs : List RecD) (x y N Z : Int) : Prop where
  v2 : V 2 = .bool true
  v3 : V 3 = .slice (some ⟨gR, 0, none⟩) m cp
  v4 : V 4 = .int .i64 (x)
  v5 : V 5 = .int .i64 (y)
  v6 : V 6 = .int .i64 (N)
  v7 : V 7 = .int .i64 (Z)
  v8 : V 8 = .int .i64 ((H : Int))
  v58 : V 58 = .int .i64 (N)
  v59 : V 59 = .slice (some ⟨gR, 0, none⟩) m cp
  v60 : V 60 = .int .i64 ((H : Int))
  v61 : V 61 = .slice (some ⟨gR, 0, none⟩) H cp
  v62 : V 62 = .int .i64 (x)
  v63 : V 63 = .int .i64 (y)
  v64 : V 64 = .int .i64 (waitM (rs.take H) x y)
  v65 : V 65 = .slice (some ⟨gR, 0, none⟩) m cp
  v66 : V 66 = .int .i64 ((H : Int))
  v67 : V 67 = .slice (if cp = H then some ⟨gR, 0, none⟩ else some ⟨gR, H * 7, none⟩) (m - H) (cp - H)
  v68 : V 68 = .int .i64 (x)
  v69 : V 69 = .int .i64 (y)
  v70 : V 70 = .int .i64 (waitM (rs.drop H) x y)
  v71 : V 71 = .int .i64 (N)
  v72 : V 72 = .bool true
  v73 : V 73 = .bool true
  v74 : V 74 = .int .i64 (Z)
  v75 : V 75 = .slice (some ⟨gR, 0, none⟩) m cp
  v76 : V 76 = .int .i64 ((H : Int))
  v77 : V 77 = .slice (some ⟨gR, 0, none⟩) H cp
  v78 : V 78 = .int .i64 (y)
  v79 : V 79 = .int .i64 (busyM (rs.take H) 1 y)
  v80 : V 80 = .slice (some ⟨gR, 0, none⟩) m cp
  v81 : V 81 = .int .i64 ((H : Int))
  v82 : V 82 = .slice (if cp = H then some ⟨gR, 0, none⟩ else some ⟨gR, H * 7, none⟩) (m - H) (cp - H)
  v83 : V 83 = .int .i64 (y)
  v84 : V 84 = .int .i64 (busyM (rs.drop H) 1 y)
  v85 : V 85 = .int .i64 (Z)
  v86 : V 86 = .bool true
  v87 : V 87 = .bool true
  v88 : V 88 = .bool true
  v89 : V 89 = .int .i64 (y)
  v99 : V 99 = .bool true
  v100 : V 100 = .bool true
  hmc : m ≤ cp
  hH : H ≤ m
  hm : m ≤ 60
  hGg : Try.prog.globals.size ≤ gR
  hsumW : IntKind.i64.wrap (waitM (rs.take H) x y + waitM (rs.drop H) x y) = N
  hsumB : IntKind.i64.wrap (busyM (rs.take H) 1 y + busyM (rs.drop H) 1 y) = Z
structure DFW9a (V : Nat → Value) (gR m cp H : Nat) (rs : List RecD) (x y N Z : Int) : Prop extends DFW9 V gR m cp H rs x y N Z where
  v90 : V 90 = .bool true
  v91 : V 91 = .bool true
  v92 : V 92 = undef
  v93 : V 93 = undef
  v94 : V 94 = undef
  v95 : V 95 = undef
  v96 : V 96 = undef
  v97 : V 97 = undef
  v98 : V 98 = undef
  hyy : (y == 3600) = true
section
variable {St : Nat → Prop} {W0 : World} {Post : Value → World → Prop} {k : List Item} {ms : List Fm} {V : Nat → Value} {Tf : Array Value} {gR m cp H : Nat} {rs : List RecD} {x y N Z : Int} {cs : Array Value}
abbrev JDFW9 (St : Nat → Prop) (W0 : World) (Post : Value → World → Prop) (k : List Item) (ms : List Fm) (Tf : Array Value) (gR : Nat) (cs : Array Value) (m : Nat) (cp : Nat) (rs : List RecD) (i : Nat) (o : Oper) (v : Value) : Prop :=
  OpJ Try.prog (inL olL) (inL alL) fsF St W0 Post 7 opsFW9 k ms (fun w => LstAt w gR cs m cp rs) Tf i o v
theorem dDFW9_0 (E : DFW9 V gR m cp H rs x y N Z) (hT : TfV Tf V) : JDFW9 St W0 Post k ms Tf gR cs m cp rs 0 oFW9_0 (V 58) :=
  .val (wanted_no rfl) fun w _ => (exec_mv (.inl rfl) (evT hT E.v6)).trans (by rw [E.v58])
theorem dDFW9_1 (E : DFW9 V gR m cp H rs x y N Z) (hT : TfV Tf V) : JDFW9 St W0 Post k ms Tf gR cs m cp rs 1 oFW9_1 (V 59) :=
  .val (wanted_no rfl) fun w _ => (exec_mv (.inl rfl) (evT hT E.v3)).trans (by rw [E.v59])
theorem dDFW9_2 (E : DFW9 V gR m cp H rs x y N Z) (hT : TfV Tf V) : JDFW9 St W0 Post k ms Tf gR cs m cp rs 2 oFW9_2 (V 60) :=
  .val (wanted_no rfl) fun w _ => (exec_mv (.inl rfl) (evT hT E.v8)).trans (by rw [E.v60])
theorem dDFW9_3 (E : DFW9 V gR m cp H rs x y N Z) (hT : TfV Tf V) : JDFW9 St W0 Post k ms Tf gR cs m cp rs 3 oFW9_3 (V 61) :=
  .val (wanted_no rfl) fun w _ => (exec_sliceHi rfl (evT hT E.v59) (evT hT E.v60) E.hH E.hmc).trans (by rw [E.v61])
theorem dDFW9_4 (E : DFW9 V gR m cp H rs x y N Z) (hT : TfV Tf V) : JDFW9 St W0 Post k ms Tf gR cs m cp rs 4 oFW9_4 (V 62) :=
  .val (wanted_no rfl) fun w _ => (exec_mv (.inl rfl) (evT hT E.v4)).trans (by rw [E.v62])
theorem dDFW9_5 (E : DFW9 V gR m cp H rs x y N Z) (hT : TfV Tf V) : JDFW9 St W0 Post k ms Tf gR cs m cp rs 5 oFW9_5 (V 63) :=
  .val (wanted_no rfl) fun w _ => (exec_mv (.inl rfl) (evT hT E.v5)).trans (by rw [E.v63])
theorem dDFW9_6 (E : DFW9 V gR m cp H rs x y N Z) (hT : TfV Tf V) : JDFW9 St W0 Post k ms Tf gR cs m cp rs 6 oFW9_6 (V 64) :=
  .call (wanted_no rfl) fun t rest w hev hwt h hcont => jo_wait (l := x) (q := y) (A := some ⟨gR, 0, none⟩) (n := H) (cap := cp) (ops := opsFW9) (i := 6) (o := oFW9_6) (rs := rs.take H) rfl (by kernel_rfl) rfl opsFW9_6 hwt rfl (ar3 ((hev (.tmp 61) (by simp [Op.operands, Call.operands])).trans (evT hT E.v61)) ((hev (.tmp 62) (by simp [Op.operands, Call.operands])).trans (evT hT E.v62)) ((hev (.tmp 63) (by simp [Op.operands, Call.operands])).trans (evT hT E.v63))) (h.src 0) (fun b' e => by cases e; exact E.hGg) (h.slcT E.hH) (by have := E.hm; have := E.hH; omega) (fun w' B => by have := hcont w' (h.bl B); rw [E.v64] at this; exact this)
theorem dDFW9_7 (E : DFW9 V gR m cp H rs x y N Z) (hT : TfV Tf V) : JDFW9 St W0 Post k ms Tf gR cs m cp rs 7 oFW9_7 (V 65) :=
  .val (wanted_no rfl) fun w _ => (exec_mv (.inl rfl) (evT hT E.v3)).trans (by rw [E.v65])
theorem dDFW9_8 (E : DFW9 V gR m cp H rs x y N Z) (hT : TfV Tf V) : JDFW9 St W0 Post k ms Tf gR cs m cp rs 8 oFW9_8 (V 66) :=
  .val (wanted_no rfl) fun w _ => (exec_mv (.inl rfl) (evT hT E.v8)).trans (by rw [E.v66])
theorem dDFW9_9 (E : DFW9 V gR m cp H rs x y N Z) (hT : TfV Tf V) : JDFW9 St W0 Post k ms Tf gR cs m cp rs 9 oFW9_9 (V 67) :=
  .val (wanted_no rfl) fun w _ => (exec_sliceLo rfl (evT hT E.v65) (evT hT E.v66) E.hH E.hmc).trans (by rw [E.v67])
theorem dDFW9_10 (E : DFW9 V gR m cp H rs x y N Z) (hT : TfV Tf V) : JDFW9 St W0 Post k ms Tf gR cs m cp rs 10 oFW9_10 (V 68) :=
  .val (wanted_no rfl) fun w _ => (exec_mv (.inl rfl) (evT hT E.v4)).trans (by rw [E.v68])
theorem dDFW9_11 (E : DFW9 V gR m cp H rs x y N Z) (hT : TfV Tf V) : JDFW9 St W0 Post k ms Tf gR cs m cp rs 11 oFW9_11 (V 69) :=
  .val (wanted_no rfl) fun w _ => (exec_mv (.inl rfl) (evT hT E.v5)).trans (by rw [E.v69])
theorem dDFW9_12 (E : DFW9 V gR m cp H rs x y N Z) (hT : TfV Tf V) : JDFW9 St W0 Post k ms Tf gR cs m cp rs 12 oFW9_12 (V 70) :=
  .call (wanted_no rfl) fun t rest w hev hwt h hcont => jo_wait (l := x) (q := y) (A := (if cp = H then some ⟨gR, 0, none⟩ else some ⟨gR, H * 7, none⟩)) (n := (m - H)) (cap := (cp - H)) (ops := opsFW9) (i := 12) (o := oFW9_12) (rs := rs.drop H) rfl (by kernel_rfl) rfl opsFW9_12 hwt rfl (ar3 ((hev (.tmp 67) (by simp [Op.operands, Call.operands])).trans (evT hT E.v67)) ((hev (.tmp 68) (by simp [Op.operands, Call.operands])).trans (evT hT E.v68)) ((hev (.tmp 69) (by simp [Op.operands, Call.operands])).trans (evT hT E.v69))) (h.srcD H) (fun b' e => by cases e; exact E.hGg) (h.slcD E.hH) (by have := E.hm; have := E.hH; omega) (fun w' B => by have := hcont w' (h.bl B); rw [E.v70] at this; exact this)
theorem dDFW9_13 (E : DFW9 V gR m cp H rs x y N Z) (hT : TfV Tf V) : JDFW9 St W0 Post k ms Tf gR cs m cp rs 13 oFW9_13 (V 71) :=
  .val (wanted_no rfl) fun w _ => (exec_add rfl (evT hT E.v64) (evT hT E.v70) E.hsumW).trans (by rw [E.v71])
theorem dDFW9_14 (E : DFW9 V gR m cp H rs x y N Z) (hT : TfV Tf V) : JDFW9 St W0 Post k ms Tf gR cs m cp rs 14 oFW9_14 (V 72) :=
  .val (wanted_no rfl) fun w _ => (exec_eql (r := true) rfl (evT hT E.v58) (evT hT E.v71) (by simp)).trans (by rw [E.v72])
theorem dDFW9_15 (E : DFW9 V gR m cp H rs x y N Z) (hT : TfV Tf V) : JDFW9 St W0 Post k ms Tf gR cs m cp rs 15 oFW9_15 (V 73) :=
  .val (wanted_no rfl) fun w _ => (exec_mv (.inl rfl) (evT hT E.v72)).trans (by rw [E.v73])
theorem dDFW9_16 (E : DFW9 V gR m cp H rs x y N Z) (hT : TfV Tf V) : JDFW9 St W0 Post k ms Tf gR cs m cp rs 16 oFW9_16 (V 74) :=
  .val (wanted_t hT rfl opsFW9_15 rfl E.v73) fun w _ => (exec_mv (.inl rfl) (evT hT E.v7)).trans (by rw [E.v74])
theorem dDFW9_17 (E : DFW9 V gR m cp H rs x y N Z) (hT : TfV Tf V) : JDFW9 St W0 Post k ms Tf gR cs m cp rs 17 oFW9_17 (V 75) :=
  .val (wanted_t hT rfl opsFW9_15 rfl E.v73) fun w _ => (exec_mv (.inl rfl) (evT hT E.v3)).trans (by rw [E.v75])
theorem dDFW9_18 (E : DFW9 V gR m cp H rs x y N Z) (hT : TfV Tf V) : JDFW9 St W0 Post k ms Tf gR cs m cp rs 18 oFW9_18 (V 76) :=
  .val (wanted_t hT rfl opsFW9_15 rfl E.v73) fun w _ => (exec_mv (.inl rfl) (evT hT E.v8)).trans (by rw [E.v76])
theorem dDFW9_19 (E : DFW9 V gR m cp H rs x y N Z) (hT : TfV Tf V) : JDFW9 St W0 Post k ms Tf gR cs m cp rs 19 oFW9_19 (V 77) :=
  .val (wanted_t hT rfl opsFW9_15 rfl E.v73) fun w _ => (exec_sliceHi rfl (evT hT E.v75) (evT hT E.v76) E.hH E.hmc).trans (by rw [E.v77])
theorem dDFW9_20 (E : DFW9 V gR m cp H rs x y N Z) (hT : TfV Tf V) : JDFW9 St W0 Post k ms Tf gR cs m cp rs 20 oFW9_20 (V 78) :=
  .val (wanted_t hT rfl opsFW9_15 rfl E.v73) fun w _ => (exec_mv (.inl rfl) (evT hT E.v5)).trans (by rw [E.v78])
theorem dDFW9_21 (E : DFW9 V gR m cp H rs x y N Z) (hT : TfV Tf V) : JDFW9 St W0 Post k ms Tf gR cs m cp rs 21 oFW9_21 (V 79) :=
  .call (wanted_t hT rfl opsFW9_15 rfl E.v73) fun t rest w hev hwt h hcont => jo_busy (l := 1) (q := y) (A := some ⟨gR, 0, none⟩) (n := H) (cap := cp) (ops := opsFW9) (i := 21) (o := oFW9_21) (rs := rs.take H) rfl (by kernel_rfl) rfl opsFW9_21 hwt rfl (ar2 ((hev (.tmp 77) (by simp [Op.operands, Call.operands])).trans (evT hT E.v77)) ((hev (.tmp 78) (by simp [Op.operands, Call.operands])).trans (evT hT E.v78))) (h.src 0) (fun b' e => by cases e; exact E.hGg) (h.slcT E.hH) (by have := E.hm; have := E.hH; omega) (fun w' B => by have := hcont w' (h.bl B); rw [E.v79] at this; exact this)
theorem dDFW9_22 (E : DFW9 V gR m cp H rs x y N Z) (hT : TfV Tf V) : JDFW9 St W0 Post k ms Tf gR cs m cp rs 22 oFW9_22 (V 80) :=
  .val (wanted_t hT rfl opsFW9_15 rfl E.v73) fun w _ => (exec_mv (.inl rfl) (evT hT E.v3)).trans (by rw [E.v80])
theorem dDFW9_23 (E : DFW9 V gR m cp H rs x y N Z) (hT : TfV Tf V) : JDFW9 St W0 Post k ms Tf gR cs m cp rs 23 oFW9_23 (V 81) :=
  .val (wanted_t hT rfl opsFW9_15 rfl E.v73) fun w _ => (exec_mv (.inl rfl) (evT hT E.v8)).trans (by rw [E.v81])
theorem dDFW9_24 (E : DFW9 V gR m cp H rs x y N Z) (hT : TfV Tf V) : JDFW9 St W0 Post k ms Tf gR cs m cp rs 24 oFW9_24 (V 82) :=
  .val (wanted_t hT rfl opsFW9_15 rfl E.v73) fun w _ => (exec_sliceLo rfl (evT hT E.v80) (evT hT E.v81) E.hH E.hmc).trans (by rw [E.v82])
theorem dDFW9_25 (E : DFW9 V gR m cp H rs x y N Z) (hT : TfV Tf V) : JDFW9 St W0 Post k ms Tf gR cs m cp rs 25 oFW9_25 (V 83) :=
  .val (wanted_t hT rfl opsFW9_15 rfl E.v73) fun w _ => (exec_mv (.inl rfl) (evT hT E.v5)).trans (by rw [E.v83])
theorem dDFW9_26 (E : DFW9 V gR m cp H rs x y N Z) (hT : TfV Tf V) : JDFW9 St W0 Post k ms Tf gR cs m cp rs 26 oFW9_26 (V 84) :=
  .call (wanted_t hT rfl opsFW9_15 rfl E.v73) fun t rest w hev hwt h hcont => jo_busy (l := 1) (q := y) (A := (if cp = H then some ⟨gR, 0, none⟩ else some ⟨gR, H * 7, none⟩)) (n := (m - H)) (cap := (cp - H)) (ops := opsFW9) (i := 26) (o := oFW9_26) (rs := rs.drop H) rfl (by kernel_rfl) rfl opsFW9_26 hwt rfl (ar2 ((hev (.tmp 82) (by simp [Op.operands, Call.operands])).trans (evT hT E.v82)) ((hev (.tmp 83) (by simp [Op.operands, Call.operands])).trans (evT hT E.v83))) (h.srcD H) (fun b' e => by cases e; exact E.hGg) (h.slcD E.hH) (by have := E.hm; have := E.hH; omega) (fun w' B => by have := hcont w' (h.bl B); rw [E.v84] at this; exact this)
theorem dDFW9_27 (E : DFW9 V gR m cp H rs x y N Z) (hT : TfV Tf V) : JDFW9 St W0 Post k ms Tf gR cs m cp rs 27 oFW9_27 (V 85) :=
  .val (wanted_t hT rfl opsFW9_15 rfl E.v73) fun w _ => (exec_add rfl (evT hT E.v79) (evT hT E.v84) E.hsumB).trans (by rw [E.v85])
theorem dDFW9_28 (E : DFW9 V gR m cp H rs x y N Z) (hT : TfV Tf V) : JDFW9 St W0 Post k ms Tf gR cs m cp rs 28 oFW9_28 (V 86) :=
  .val (wanted_t hT rfl opsFW9_15 rfl E.v73) fun w _ => (exec_eql (r := true) rfl (evT hT E.v74) (evT hT E.v85) (by simp)).trans (by rw [E.v86])
theorem dDFW9_29 (E : DFW9 V gR m cp H rs x y N Z) (hT : TfV Tf V) : JDFW9 St W0 Post k ms Tf gR cs m cp rs 29 oFW9_29 (V 87) :=
  .val (wanted_no rfl) fun w _ => (exec_pkT rfl (evT hT E.v73) (evT hT E.v86)).trans (by rw [E.v87])
theorem dDFW9_30 (E : DFW9 V gR m cp H rs x y N Z) (hT : TfV Tf V) : JDFW9 St W0 Post k ms Tf gR cs m cp rs 30 oFW9_30 (V 88) :=
  .val (wanted_no rfl) fun w _ => (exec_mv (.inl rfl) (evT hT E.v87)).trans (by rw [E.v88])
theorem dDFW9_31 (E : DFW9 V gR m cp H rs x y N Z) (hT : TfV Tf V) : JDFW9 St W0 Post k ms Tf gR cs m cp rs 31 oFW9_31 (V 89) :=
  .val (wanted_t hT rfl opsFW9_30 rfl E.v88) fun w _ => (exec_mv (.inl rfl) (evT hT E.v5)).trans (by rw [E.v89])
theorem dFW9a_32 (E : DFW9a V gR m cp H rs x y N Z) (hT : TfV Tf V) : JDFW9 St W0 Post k ms Tf gR cs m cp rs 32 oFW9_32 (V 90) :=
  .val (wanted_t hT rfl opsFW9_30 rfl E.v88) fun w _ => (exec_eql (r := true) rfl (evT hT E.v89) (show (Go.Act.mk Tf []).eval (.const (.int .i64 (3600))) = .int .i64 (3600) from rfl) E.hyy).trans (by rw [E.v90])
theorem dFW9a_33 (E : DFW9a V gR m cp H rs x y N Z) (hT : TfV Tf V) : JDFW9 St W0 Post k ms Tf gR cs m cp rs 33 oFW9_33 (V 91) :=
  .val (wanted_t hT rfl opsFW9_30 rfl E.v88) fun w _ => (exec_mv (.inl rfl) (evT hT E.v90)).trans (by rw [E.v91])
theorem dFW9a_34 (E : DFW9a V gR m cp H rs x y N Z) (hT : TfV Tf V) : JDFW9 St W0 Post k ms Tf gR cs m cp rs 34 oFW9_34 (V 92) :=
  .no (wanted_f hT rfl opsFW9_33 rfl E.v91) E.v92
theorem dFW9a_35 (E : DFW9a V gR m cp H rs x y N Z) (hT : TfV Tf V) : JDFW9 St W0 Post k ms Tf gR cs m cp rs 35 oFW9_35 (V 93) :=
  .no (wanted_f hT rfl opsFW9_33 rfl E.v91) E.v93
theorem dFW9a_36 (E : DFW9a V gR m cp H rs x y N Z) (hT : TfV Tf V) : JDFW9 St W0 Post k ms Tf gR cs m cp rs 36 oFW9_36 (V 94) :=
  .no (wanted_f hT rfl opsFW9_33 rfl E.v91) E.v94
theorem dFW9a_37 (E : DFW9a V gR m cp H rs x y N Z) (hT : TfV Tf V) : JDFW9 St W0 Post k ms Tf gR cs m cp rs 37 oFW9_37 (V 95) :=
  .no (wanted_f hT rfl opsFW9_33 rfl E.v91) E.v95
theorem dFW9a_38 (E : DFW9a V gR m cp H rs x y N Z) (hT : TfV Tf V) : JDFW9 St W0 Post k ms Tf gR cs m cp rs 38 oFW9_38 (V 96) :=
  .no (wanted_f hT rfl opsFW9_33 rfl E.v91) E.v96
theorem dFW9a_39 (E : DFW9a V gR m cp H rs x y N Z) (hT : TfV Tf V) : JDFW9 St W0 Post k ms Tf gR cs m cp rs 39 oFW9_39 (V 97) :=
  .no (wanted_f hT rfl opsFW9_33 rfl E.v91) E.v97
theorem dFW9a_40 (E : DFW9a V gR m cp H rs x y N Z) (hT : TfV Tf V) : JDFW9 St W0 Post k ms Tf gR cs m cp rs 40 oFW9_40 (V 98) :=
  .no (wanted_f hT rfl opsFW9_33 rfl E.v91) E.v98
theorem dFW9a_41 (E : DFW9a V gR m cp H rs x y N Z) (hT : TfV Tf V) : JDFW9 St W0 Post k ms Tf gR cs m cp rs 41 oFW9_41 (V 99) :=
  .val (wanted_t hT rfl opsFW9_30 rfl E.v88) fun w _ => (exec_pkT rfl (evT hT E.v91) (show (Go.Act.mk Tf []).eval (.const (.bool true)) = .bool true from rfl)).trans (by rw [E.v99])
theorem dDFW9_42 (E : DFW9 V gR m cp H rs x y N Z) (hT : TfV Tf V) : JDFW9 St W0 Post k ms Tf gR cs m cp rs 42 oFW9_42 (V 100) :=
  .val (wanted_no rfl) fun w _ => (exec_pkT rfl (evT hT E.v88) (evT hT E.v99)).trans (by rw [E.v100])
theorem dDFW9_43 (E : DFW9 V gR m cp H rs x y N Z) (hT : TfV Tf V) : JDFW9 St W0 Post k ms Tf gR cs m cp rs 43 oFW9_43 (V 2) :=
  .val (wanted_no rfl) fun w _ => (exec_mv (.inr rfl) (evT hT E.v100)).trans (by rw [E.v2])
theorem opsFW9_listFW9a : opsFW9.toList = [oFW9_0, oFW9_1, oFW9_2, oFW9_3, oFW9_4, oFW9_5, oFW9_6, oFW9_7, oFW9_8, oFW9_9, oFW9_10, oFW9_11, oFW9_12, oFW9_13, oFW9_14, oFW9_15, oFW9_16, oFW9_17, oFW9_18, oFW9_19, oFW9_20, oFW9_21, oFW9_22, oFW9_23, oFW9_24, oFW9_25, oFW9_26, oFW9_27, oFW9_28, oFW9_29, oFW9_30, oFW9_31, oFW9_32, oFW9_33, oFW9_34, oFW9_35, oFW9_36, oFW9_37, oFW9_38, oFW9_39, oFW9_40, oFW9_41, oFW9_42, oFW9_43] := rfl
theorem dFW9a_all (E : DFW9a V gR m cp H rs x y N Z) (hT : TfV Tf V) : ∀ (i : Nat) (o : Oper), opsFW9[i]? = some o → JDFW9 St W0 Post k ms Tf gR cs m cp rs i o (valV V o) :=
  allL_ops opsFW9_listFW9a ⟨dDFW9_0 E.toDFW9 hT, dDFW9_1 E.toDFW9 hT, dDFW9_2 E.toDFW9 hT, dDFW9_3 E.toDFW9 hT, dDFW9_4 E.toDFW9 hT, dDFW9_5 E.toDFW9 hT, dDFW9_6 E.toDFW9 hT, dDFW9_7 E.toDFW9 hT, dDFW9_8 E.toDFW9 hT, dDFW9_9 E.toDFW9 hT, dDFW9_10 E.toDFW9 hT, dDFW9_11 E.toDFW9 hT, dDFW9_12 E.toDFW9 hT, dDFW9_13 E.toDFW9 hT, dDFW9_14 E.toDFW9 hT, dDFW9_15 E.toDFW9 hT, dDFW9_16 E.toDFW9 hT, dDFW9_17 E.toDFW9 hT, dDFW9_18 E.toDFW9 hT, dDFW9_19 E.toDFW9 hT, dDFW9_20 E.toDFW9 hT, dDFW9_21 E.toDFW9 hT, dDFW9_22 E.toDFW9 hT, dDFW9_23 E.toDFW9 hT, dDFW9_24 E.toDFW9 hT, dDFW9_25 E.toDFW9 hT, dDFW9_26 E.toDFW9 hT, dDFW9_27 E.toDFW9 hT, dDFW9_28 E.toDFW9 hT, dDFW9_29 E.toDFW9 hT, dDFW9_30 E.toDFW9 hT, dDFW9_31 E.toDFW9 hT, dFW9a_32 E hT, dFW9a_33 E hT, dFW9a_34 E hT, dFW9a_35 E hT, dFW9a_36 E hT, dFW9a_37 E hT, dFW9a_38 E hT, dFW9a_39 E hT, dFW9a_40 E hT, dFW9a_41 E hT, dDFW9_42 E.toDFW9 hT, dDFW9_43 E.toDFW9 hT, trivial⟩
end
structure DFW9b (V : Nat → Value) (gR m cp H : Nat) (rs : List RecD) (x y N Z : Int) : Prop extends DFW9 V gR m cp H rs x y N Z where
  v90 : V 90 = .bool false
  v91 : V 91 = .bool false
  v92 : V 92 = .slice (some ⟨gR, 0, none⟩) m cp
  v93 : V 93 = .int .i64 (x)
  v94 : V 94 = .int .i64 (y)
  v95 : V 95 = .int .i64 (y + 1)
  v96 : V 96 = .int .i64 (waitM rs x (y + 1))
  v97 : V 97 = .int .i64 (N)
  v98 : V 98 = .bool true
  hyy : (y == 3600) = false
  hy1 : IntKind.i64.wrap (y + 1) = y + 1
  hge : N ≤ waitM rs x (y + 1)
section
variable {St : Nat → Prop} {W0 : World} {Post : Value → World → Prop} {k : List Item} {ms : List Fm} {V : Nat → Value} {Tf : Array Value} {gR m cp H : Nat} {rs : List RecD} {x y N Z : Int} {cs : Array Value}
theorem dFW9b_32 (E : DFW9b V gR m cp H rs x y N Z) (hT : TfV Tf V) : JDFW9 St W0 Post k ms Tf gR cs m cp rs 32 oFW9_32 (V 90) :=
  .val (wanted_t hT rfl opsFW9_30 rfl E.v88) fun w _ => (exec_eql (r := false) rfl (evT hT E.v89) (show (Go.Act.mk Tf []).eval (.const (.int .i64 (3600))) = .int .i64 (3600) from rfl) E.hyy).trans (by rw [E.v90])
theorem dFW9b_33 (E : DFW9b V gR m cp H rs x y N Z) (hT : TfV Tf V) : JDFW9 St W0 Post k ms Tf gR cs m cp rs 33 oFW9_33 (V 91) :=
  .val (wanted_t hT rfl opsFW9_30 rfl E.v88) fun w _ => (exec_mv (.inl rfl) (evT hT E.v90)).trans (by rw [E.v91])
theorem dFW9b_34 (E : DFW9b V gR m cp H rs x y N Z) (hT : TfV Tf V) : JDFW9 St W0 Post k ms Tf gR cs m cp rs 34 oFW9_34 (V 92) :=
  .val (wanted_t hT rfl opsFW9_33 rfl E.v91) fun w _ => (exec_mv (.inl rfl) (evT hT E.v3)).trans (by rw [E.v92])
theorem dFW9b_35 (E : DFW9b V gR m cp H rs x y N Z) (hT : TfV Tf V) : JDFW9 St W0 Post k ms Tf gR cs m cp rs 35 oFW9_35 (V 93) :=
  .val (wanted_t hT rfl opsFW9_33 rfl E.v91) fun w _ => (exec_mv (.inl rfl) (evT hT E.v4)).trans (by rw [E.v93])
theorem dFW9b_36 (E : DFW9b V gR m cp H rs x y N Z) (hT : TfV Tf V) : JDFW9 St W0 Post k ms Tf gR cs m cp rs 36 oFW9_36 (V 94) :=
  .val (wanted_t hT rfl opsFW9_33 rfl E.v91) fun w _ => (exec_mv (.inl rfl) (evT hT E.v5)).trans (by rw [E.v94])
theorem dFW9b_37 (E : DFW9b V gR m cp H rs x y N Z) (hT : TfV Tf V) : JDFW9 St W0 Post k ms Tf gR cs m cp rs 37 oFW9_37 (V 95) :=
  .val (wanted_t hT rfl opsFW9_33 rfl E.v91) fun w _ => (exec_add rfl (evT hT E.v94) (show (Go.Act.mk Tf []).eval (.const (.int .i64 (1))) = .int .i64 (1) from rfl) E.hy1).trans (by rw [E.v95])
theorem dFW9b_38 (E : DFW9b V gR m cp H rs x y N Z) (hT : TfV Tf V) : JDFW9 St W0 Post k ms Tf gR cs m cp rs 38 oFW9_38 (V 96) :=
  .call (wanted_t hT rfl opsFW9_33 rfl E.v91) fun t rest w hev hwt h hcont => jo_wait (l := x) (q := y + 1) (A := some ⟨gR, 0, none⟩) (n := m) (cap := cp) (ops := opsFW9) (i := 38) (o := oFW9_38) (rs := rs) rfl (by kernel_rfl) rfl opsFW9_38 hwt rfl (ar3 ((hev (.tmp 92) (by simp [Op.operands, Call.operands])).trans (evT hT E.v92)) ((hev (.tmp 93) (by simp [Op.operands, Call.operands])).trans (evT hT E.v93)) ((hev (.tmp 95) (by simp [Op.operands, Call.operands])).trans (evT hT E.v95))) (h.src 0) (fun b' e => by cases e; exact E.hGg) h.slc (by have := E.hm; have := E.hH; omega) (fun w' B => by have := hcont w' (h.bl B); rw [E.v96] at this; exact this)
theorem dFW9b_39 (E : DFW9b V gR m cp H rs x y N Z) (hT : TfV Tf V) : JDFW9 St W0 Post k ms Tf gR cs m cp rs 39 oFW9_39 (V 97) :=
  .val (wanted_t hT rfl opsFW9_33 rfl E.v91) fun w _ => (exec_mv (.inl rfl) (evT hT E.v6)).trans (by rw [E.v97])
theorem dFW9b_40 (E : DFW9b V gR m cp H rs x y N Z) (hT : TfV Tf V) : JDFW9 St W0 Post k ms Tf gR cs m cp rs 40 oFW9_40 (V 98) :=
  .val (wanted_t hT rfl opsFW9_33 rfl E.v91) fun w _ => (exec_geq (r := true) rfl (evT hT E.v96) (evT hT E.v97) (by simp [E.hge])).trans (by rw [E.v98])
theorem dFW9b_41 (E : DFW9b V gR m cp H rs x y N Z) (hT : TfV Tf V) : JDFW9 St W0 Post k ms Tf gR cs m cp rs 41 oFW9_41 (V 99) :=
  .val (wanted_t hT rfl opsFW9_30 rfl E.v88) fun w _ => (exec_pkF rfl (evT hT E.v91) (evT hT E.v98)).trans (by rw [E.v99])
theorem opsFW9_listFW9b : opsFW9.toList = [oFW9_0, oFW9_1, oFW9_2, oFW9_3, oFW9_4, oFW9_5, oFW9_6, oFW9_7, oFW9_8, oFW9_9, oFW9_10, oFW9_11, oFW9_12, oFW9_13, oFW9_14, oFW9_15, oFW9_16, oFW9_17, oFW9_18, oFW9_19, oFW9_20, oFW9_21, oFW9_22, oFW9_23, oFW9_24, oFW9_25, oFW9_26, oFW9_27, oFW9_28, oFW9_29, oFW9_30, oFW9_31, oFW9_32, oFW9_33, oFW9_34, oFW9_35, oFW9_36, oFW9_37, oFW9_38, oFW9_39, oFW9_40, oFW9_41, oFW9_42, oFW9_43] := rfl
theorem dFW9b_all (E : DFW9b V gR m cp H rs x y N Z) (hT : TfV Tf V) : ∀ (i : Nat) (o : Oper), opsFW9[i]? = some o → JDFW9 St W0 Post k ms Tf gR cs m cp rs i o (valV V o) :=
  allL_ops opsFW9_listFW9b ⟨dDFW9_0 E.toDFW9 hT, dDFW9_1 E.toDFW9 hT, dDFW9_2 E.toDFW9 hT, dDFW9_3 E.toDFW9 hT, dDFW9_4 E.toDFW9 hT, dDFW9_5 E.toDFW9 hT, dDFW9_6 E.toDFW9 hT, dDFW9_7 E.toDFW9 hT, dDFW9_8 E.toDFW9 hT, dDFW9_9 E.toDFW9 hT, dDFW9_10 E.toDFW9 hT, dDFW9_11 E.toDFW9 hT, dDFW9_12 E.toDFW9 hT, dDFW9_13 E.toDFW9 hT, dDFW9_14 E.toDFW9 hT, dDFW9_15 E.toDFW9 hT, dDFW9_16 E.toDFW9 hT, dDFW9_17 E.toDFW9 hT, dDFW9_18 E.toDFW9 hT, dDFW9_19 E.toDFW9 hT, dDFW9_20 E.toDFW9 hT, dDFW9_21 E.toDFW9 hT, dDFW9_22 E.toDFW9 hT, dDFW9_23 E.toDFW9 hT, dDFW9_24 E.toDFW9 hT, dDFW9_25 E.toDFW9 hT, dDFW9_26 E.toDFW9 hT, dDFW9_27 E.toDFW9 hT, dDFW9_28 E.toDFW9 hT, dDFW9_29 E.toDFW9 hT, dDFW9_30 E.toDFW9 hT, dDFW9_31 E.toDFW9 hT, dFW9b_32 E hT, dFW9b_33 E hT, dFW9b_34 E hT, dFW9b_35 E hT, dFW9b_36 E hT, dFW9b_37 E hT, dFW9b_38 E hT, dFW9b_39 E hT, dFW9b_40 E hT, dFW9b_41 E hT, dDFW9_42 E.toDFW9 hT, dDFW9_43 E.toDFW9 hT, trivial⟩
end
set_option maxRecDepth 100000 in
theorem fw_drawnFW9a {St : Nat → Prop} {W0 : World} {Post : Value → World → Prop} {w : World} {gR m cp H : Nat} {cs : Array Value} {rs : List RecD} {x y N Z : Int} {t0 : Array Value} (hz : t0.size = 101) (h3 : t0.getD 3 undef = .slice (some ⟨gR, 0, none⟩) m cp) (h4 : t0.getD 4 undef = .int .i64 (x)) (h5 : t0.getD 5 undef = .int .i64 (y)) (h6 : t0.getD 6 undef = .int .i64 (N)) (h7 : t0.getD 7 undef = .int .i64 (Z)) (h8 : t0.getD 8 undef = .int .i64 ((H : Int)))
    (HL : LstAt w gR cs m cp rs) (hmc : m ≤ cp) (hH : H ≤ m) (hm : m ≤ 60) (hGg : Try.prog.globals.size ≤ gR) (hsumW : IntKind.i64.wrap (waitM (rs.take H) x y + waitM (rs.drop H) x y) = N) (hsumB : IntKind.i64.wrap (busyM (rs.take H) 1 y + busyM (rs.drop H) 1 y) = Z) (hyy : (y == 3600) = true)
    (hend : ∀ (tmps : Array Value) (td : List Item) (w' : World), tmps.getD 2 undef = .bool true → JE St W0 Post ⟨7, tmps, td, true⟩ [] w') :
    JE St W0 Post ⟨7, t0, .code (.region 9 opsFW9 true) :: [.code .ret], false⟩ [] w := by
  have L := lvF
  have hfo : inL olL 7 = false := by kernel_rfl
  refine JO.drawnV L Try.checked.mixed hfo opsFW9_ok (WI := fun w => LstAt w gR cs m cp rs) (fun w T e h => h.tp T e) (by rw [hz]; exact opsFW9_sz) (fun s => (#[undef, undef, .bool true, undef, undef, undef, undef, undef, undef, undef, undef, undef, undef, undef, undef, undef, undef, undef, undef, undef, undef, undef, undef, undef, undef, undef, undef, undef, undef, undef, undef, undef, undef, undef, undef, undef, undef, undef, undef, undef, undef, undef, undef, undef, undef, undef, undef, undef, undef, undef, undef, undef, undef, undef, undef, undef, undef, undef, .int .i64 (N), .slice (some ⟨gR, 0, none⟩) m cp, .int .i64 ((H : Int)), .slice (some ⟨gR, 0, none⟩) H cp, .int .i64 (x), .int .i64 (y), .int .i64 (waitM (rs.take H) x y), .slice (some ⟨gR, 0, none⟩) m cp, .int .i64 ((H : Int)), .slice (if cp = H then some ⟨gR, 0, none⟩ else some ⟨gR, H * 7, none⟩) (m - H) (cp - H), .int .i64 (x), .int .i64 (y), .int .i64 (waitM (rs.drop H) x y), .int .i64 (N), .bool true, .bool true, .int .i64 (Z), .slice (some ⟨gR, 0, none⟩) m cp, .int .i64 ((H : Int)), .slice (some ⟨gR, 0, none⟩) H cp, .int .i64 (y), .int .i64 (busyM (rs.take H) 1 y), .slice (some ⟨gR, 0, none⟩) m cp, .int .i64 ((H : Int)), .slice (if cp = H then some ⟨gR, 0, none⟩ else some ⟨gR, H * 7, none⟩) (m - H) (cp - H), .int .i64 (y), .int .i64 (busyM (rs.drop H) 1 y), .int .i64 (Z), .bool true, .bool true, .bool true, .int .i64 (y), .bool true, .bool true, undef, undef, undef, undef, undef, undef, undef, .bool true, .bool true] : Array Value).getD s undef) (fun V hU h0 => ?_) HL
  have E : DFW9a V gR m cp H rs x y N Z := ⟨⟨(hU 2 (by kernel_rfl)).trans rfl, (h0 3 (by kernel_rfl)).trans h3, (h0 4 (by kernel_rfl)).trans h4, (h0 5 (by kernel_rfl)).trans h5, (h0 6 (by kernel_rfl)).trans h6, (h0 7 (by kernel_rfl)).trans h7, (h0 8 (by kernel_rfl)).trans h8, (hU 58 (by kernel_rfl)).trans rfl, (hU 59 (by kernel_rfl)).trans rfl, (hU 60 (by kernel_rfl)).trans rfl, (hU 61 (by kernel_rfl)).trans rfl, (hU 62 (by kernel_rfl)).trans rfl, (hU 63 (by kernel_rfl)).trans rfl, (hU 64 (by kernel_rfl)).trans rfl, (hU 65 (by kernel_rfl)).trans rfl, (hU 66 (by kernel_rfl)).trans rfl, (hU 67 (by kernel_rfl)).trans rfl, (hU 68 (by kernel_rfl)).trans rfl, (hU 69 (by kernel_rfl)).trans rfl, (hU 70 (by kernel_rfl)).trans rfl, (hU 71 (by kernel_rfl)).trans rfl, (hU 72 (by kernel_rfl)).trans rfl, (hU 73 (by kernel_rfl)).trans rfl, (hU 74 (by kernel_rfl)).trans rfl, (hU 75 (by kernel_rfl)).trans rfl, (hU 76 (by kernel_rfl)).trans rfl, (hU 77 (by kernel_rfl)).trans rfl, (hU 78 (by kernel_rfl)).trans rfl, (hU 79 (by kernel_rfl)).trans rfl, (hU 80 (by kernel_rfl)).trans rfl, (hU 81 (by kernel_rfl)).trans rfl, (hU 82 (by kernel_rfl)).trans rfl, (hU 83 (by kernel_rfl)).trans rfl, (hU 84 (by kernel_rfl)).trans rfl, (hU 85 (by kernel_rfl)).trans rfl, (hU 86 (by kernel_rfl)).trans rfl, (hU 87 (by kernel_rfl)).trans rfl, (hU 88 (by kernel_rfl)).trans rfl, (hU 89 (by kernel_rfl)).trans rfl, (hU 99 (by kernel_rfl)).trans rfl, (hU 100 (by kernel_rfl)).trans rfl, hmc, hH, hm, hGg, hsumW, hsumB⟩, (hU 90 (by kernel_rfl)).trans rfl, (hU 91 (by kernel_rfl)).trans rfl, (hU 92 (by kernel_rfl)).trans rfl, (hU 93 (by kernel_rfl)).trans rfl, (hU 94 (by kernel_rfl)).trans rfl, (hU 95 (by kernel_rfl)).trans rfl, (hU 96 (by kernel_rfl)).trans rfl, (hU 97 (by kernel_rfl)).trans rfl, (hU 98 (by kernel_rfl)).trans rfl, hyy⟩
  exact ⟨fun Tf hT => dFW9a_all E hT, fun Tf w hT hz hw => JO.ret L hfo (hend _ _ _ ((hT 2).trans E.v2))⟩
set_option maxRecDepth 100000 in
theorem fw_drawnFW9b {St : Nat → Prop} {W0 : World} {Post : Value → World → Prop} {w : World} {gR m cp H : Nat} {cs : Array Value} {rs : List RecD} {x y N Z : Int} {t0 : Array Value} (hz : t0.size = 101) (h3 : t0.getD 3 undef = .slice (some ⟨gR, 0, none⟩) m cp) (h4 : t0.getD 4 undef = .int .i64 (x)) (h5 : t0.getD 5 undef = .int .i64 (y)) (h6 : t0.getD 6 undef = .int .i64 (N)) (h7 : t0.getD 7 undef = .int .i64 (Z)) (h8 : t0.getD 8 undef = .int .i64 ((H : Int)))
    (HL : LstAt w gR cs m cp rs) (hmc : m ≤ cp) (hH : H ≤ m) (hm : m ≤ 60) (hGg : Try.prog.globals.size ≤ gR) (hsumW : IntKind.i64.wrap (waitM (rs.take H) x y + waitM (rs.drop H) x y) = N) (hsumB : IntKind.i64.wrap (busyM (rs.take H) 1 y + busyM (rs.drop H) 1 y) = Z) (hyy : (y == 3600) = false) (hy1 : IntKind.i64.wrap (y + 1) = y + 1) (hge : N ≤ waitM rs x (y + 1))
    (hend : ∀ (tmps : Array Value) (td : List Item) (w' : World), tmps.getD 2 undef = .bool true → JE St W0 Post ⟨7, tmps, td, true⟩ [] w') :
    JE St W0 Post ⟨7, t0, .code (.region 9 opsFW9 true) :: [.code .ret], false⟩ [] w := by
  have L := lvF
  have hfo : inL olL 7 = false := by kernel_rfl
  refine JO.drawnV L Try.checked.mixed hfo opsFW9_ok (WI := fun w => LstAt w gR cs m cp rs) (fun w T e h => h.tp T e) (by rw [hz]; exact opsFW9_sz) (fun s => (#[undef, undef, .bool true, undef, undef, undef, undef, undef, undef, undef, undef, undef, undef, undef, undef, undef, undef, undef, undef, undef, undef, undef, undef, undef, undef, undef, undef, undef, undef, undef, undef, undef, undef, undef, undef, undef, undef, undef, undef, undef, undef, undef, undef, undef, undef, undef, undef, undef, undef, undef, undef, undef, undef, undef, undef, undef, undef, undef, .int .i64 (N), .slice (some ⟨gR, 0, none⟩) m cp, .int .i64 ((H : Int)), .slice (some ⟨gR, 0, none⟩) H cp, .int .i64 (x), .int .i64 (y), .int .i64 (waitM (rs.take H) x y), .slice (some ⟨gR, 0, none⟩) m cp, .int .i64 ((H : Int)), .slice (if cp = H then some ⟨gR, 0, none⟩ else some ⟨gR, H * 7, none⟩) (m - H) (cp - H), .int .i64 (x), .int .i64 (y), .int .i64 (waitM (rs.drop H) x y), .int .i64 (N), .bool true, .bool true, .int .i64 (Z), .slice (some ⟨gR, 0, none⟩) m cp, .int .i64 ((H : Int)), .slice (some ⟨gR, 0, none⟩) H cp, .int .i64 (y), .int .i64 (busyM (rs.take H) 1 y), .slice (some ⟨gR, 0, none⟩) m cp, .int .i64 ((H : Int)), .slice (if cp = H then some ⟨gR, 0, none⟩ else some ⟨gR, H * 7, none⟩) (m - H) (cp - H), .int .i64 (y), .int .i64 (busyM (rs.drop H) 1 y), .int .i64 (Z), .bool true, .bool true, .bool true, .int .i64 (y), .bool false, .bool false, .slice (some ⟨gR, 0, none⟩) m cp, .int .i64 (x), .int .i64 (y), .int .i64 (y + 1), .int .i64 (waitM rs x (y + 1)), .int .i64 (N), .bool true, .bool true, .bool true] : Array Value).getD s undef) (fun V hU h0 => ?_) HL
  have E : DFW9b V gR m cp H rs x y N Z := ⟨⟨(hU 2 (by kernel_rfl)).trans rfl, (h0 3 (by kernel_rfl)).trans h3, (h0 4 (by kernel_rfl)).trans h4, (h0 5 (by kernel_rfl)).trans h5, (h0 6 (by kernel_rfl)).trans h6, (h0 7 (by kernel_rfl)).trans h7, (h0 8 (by kernel_rfl)).trans h8, (hU 58 (by kernel_rfl)).trans rfl, (hU 59 (by kernel_rfl)).trans rfl, (hU 60 (by kernel_rfl)).trans rfl, (hU 61 (by kernel_rfl)).trans rfl, (hU 62 (by kernel_rfl)).trans rfl, (hU 63 (by kernel_rfl)).trans rfl, (hU 64 (by kernel_rfl)).trans rfl, (hU 65 (by kernel_rfl)).trans rfl, (hU 66 (by kernel_rfl)).trans rfl, (hU 67 (by kernel_rfl)).trans rfl, (hU 68 (by kernel_rfl)).trans rfl, (hU 69 (by kernel_rfl)).trans rfl, (hU 70 (by kernel_rfl)).trans rfl, (hU 71 (by kernel_rfl)).trans rfl, (hU 72 (by kernel_rfl)).trans rfl, (hU 73 (by kernel_rfl)).trans rfl, (hU 74 (by kernel_rfl)).trans rfl, (hU 75 (by kernel_rfl)).trans rfl, (hU 76 (by kernel_rfl)).trans rfl, (hU 77 (by kernel_rfl)).trans rfl, (hU 78 (by kernel_rfl)).trans rfl, (hU 79 (by kernel_rfl)).trans rfl, (hU 80 (by kernel_rfl)).trans rfl, (hU 81 (by kernel_rfl)).trans rfl, (hU 82 (by kernel_rfl)).trans rfl, (hU 83 (by kernel_rfl)).trans rfl, (hU 84 (by kernel_rfl)).trans rfl, (hU 85 (by kernel_rfl)).trans rfl, (hU 86 (by kernel_rfl)).trans rfl, (hU 87 (by kernel_rfl)).trans rfl, (hU 88 (by kernel_rfl)).trans rfl, (hU 89 (by kernel_rfl)).trans rfl, (hU 99 (by kernel_rfl)).trans rfl, (hU 100 (by kernel_rfl)).trans rfl, hmc, hH, hm, hGg, hsumW, hsumB⟩, (hU 90 (by kernel_rfl)).trans rfl, (hU 91 (by kernel_rfl)).trans rfl, (hU 92 (by kernel_rfl)).trans rfl, (hU 93 (by kernel_rfl)).trans rfl, (hU 94 (by kernel_rfl)).trans rfl, (hU 95 (by kernel_rfl)).trans rfl, (hU 96 (by kernel_rfl)).trans rfl, (hU 97 (by kernel_rfl)).trans rfl, (hU 98 (by kernel_rfl)).trans rfl, hyy, hy1, hge⟩
  exact ⟨fun Tf hT => dFW9b_all E hT, fun Tf w hT hz hw => JO.ret L hfo (hend _ _ _ ((hT 2).trans E.v2))⟩
set_option maxRecDepth 100000 in
theorem fw_tail {St : Nat → Prop} {W0 : World} {Post : Value → World → Prop} {w : World} {gR m cp H : Nat} {cs : Array Value} {rs : List RecD} {x y N Z : Int} (HL : LstAt w gR cs m cp rs) (hGg : Try.prog.globals.size ≤ gR) (hm : m ≤ 60) (hH2 : H = m / 2) (hN : N = waitM rs x y) (hZ : Z = busyM rs 1 y) (hN0 : 0 ≤ waitM rs x y)
    {t0 : Array Value} (hz : t0.size = 101) (h3 : t0.getD 3 undef = .slice (some ⟨gR, 0, none⟩) m cp) (h4 : t0.getD 4 undef = .int .i64 x) (h5 : t0.getD 5 undef = .int .i64 y) (h6 : t0.getD 6 undef = .int .i64 N) (h7 : t0.getD 7 undef = .int .i64 Z) (h8 : t0.getD 8 undef = .int .i64 (H : Int))
    (hend : ∀ (tmps : Array Value) (td : List Item) (w' : World), tmps.getD 2 undef = .bool true → JE St W0 Post ⟨7, tmps, td, true⟩ [] w') :
    JE St W0 Post ⟨7, t0, [.code (rFW9.seq Go.Code.ret)], false⟩ [] w := by
  have L := lvF
  have hfo : inL olL 7 = false := by kernel_rfl
  have hH : H ≤ m := by omega
  have hmc := HL.le
  have hck := (waitM_pos hN0).1
  obtain ⟨hy0, hy1'⟩ := waitM_clock hN0
  have b1 := waitM_le (ds := rs.take H) (l := x) (k := y)
  have b2 := waitM_le (ds := rs.drop H) (l := x) (k := y)
  have b3 := busyM_le (ds := rs.take H) (l := 1) (k := y)
  have b4 := busyM_le (ds := rs.drop H) (l := 1) (k := y)
  have hsumW : IntKind.i64.wrap (waitM (rs.take H) x y + waitM (rs.drop H) x y) = N := by rw [wrap_id (by omega) (by omega), hN]; exact (waitM_split hN0 H).symm
  have hsumB : IntKind.i64.wrap (busyM (rs.take H) 1 y + busyM (rs.drop H) 1 y) = Z := by rw [wrap_id (by omega) (by omega), hZ]; exact (busyM_split hck H).symm
  refine JO.seq L hfo ?_
  rw [rFW9_eq]
  by_cases hy : y = 3600
  · exact fw_drawnFW9a hz h3 h4 h5 h6 h7 h8 HL hmc hH hm hGg hsumW hsumB (by simp [hy]) hend
  · have hy1 : IntKind.i64.wrap (y + 1) = y + 1 := wrap_id (by omega) (by omega)
    have hge : N ≤ waitM rs x (y + 1) := by rw [hN]; exact waitM_later hN0 hy
    exact fw_drawnFW9b hz h3 h4 h5 h6 h7 h8 HL hmc hH hm hGg hsumW hsumB (by simp [hy]) hy1 hge hend
section
variable {St : Nat → Prop} {W0 : World} {Post : Value → World → Prop}
set_option maxHeartbeats 16000000 in
set_option maxRecDepth 100000 in
theorem jo_law_fw {w : World} {A : Option Addr} {n cap : Nat} (hC : Code w A n cap) (hG : Try.prog.globals.size ≤ w.heap.size) (hP : ∀ (R : Pr) (W : World), Kp W0 R St W → Post (.bool true) W) :
    JE St W0 Post ⟨7, #[.slice A n cap, undef, undef, undef, undef, undef, undef, undef, undef, undef, undef, undef, undef, undef, undef, undef, undef, undef, undef, undef, undef, undef, undef, undef, undef, undef, undef, undef, undef, undef, undef, undef, undef, undef, undef, undef, undef, undef, undef, undef, undef, undef, undef, undef, undef, undef, undef, undef, undef, undef, undef, undef, undef, undef, undef, undef, undef, undef, undef, undef, undef, undef, undef, undef, undef, undef, undef, undef, undef, undef, undef, undef, undef, undef, undef, undef, undef, undef, undef, undef, undef, undef, undef, undef, undef, undef, undef, undef, undef, undef, undef, undef, undef, undef, undef, undef, undef, undef, undef, undef, undef], [.code bodyFW], false⟩ [] w := by
  have L := lvF
  have hfo : inL olL 7 = false := by kernel_rfl
  have hend : ∀ (tmps : Array Value) (td : List Item) (w' : World), tmps.getD 2 undef = .bool true → JE St W0 Post ⟨7, tmps, td, true⟩ [] w' := by
    intro tmps td w' h6
    refine JO.fin L (t := 2) rfl Try.func7 rfl (by kernel_rfl) fun K R W v' hv hk => ?_
    have hv' : VR (SF fsF) K R (tmps.getD 2 undef) v' := hv
    rw [h6] at hv'
    cases hv'
    exact hP R W hk
  rw [bodyFW_eq]
  refine JO.seq L hfo ?_
  refine JO.pieceQ L (by kernel_rfl) hfo (fun Tp Q HQ => ?_)
  simp only [rFW0, bodyFW, Try.f7, Option.getD_some]
  replace hC : Code (Tt.tp w Tp 0) A n cap := ⟨hC.le, hC.cap, hC.at_⟩
  replace hG : Try.prog.globals.size ≤ (Tt.tp w Tp 0).heap.size := hG
  generalize Tt.tp w Tp 0 = w1 at hC hG ⊢
  go_wp2
  refine HQ.out _ _ ?_
  clear HQ
  refine JO.seq L hfo ?_
  refine JO.seq L hfo ?_
  refine JO.pieceQ L (by kernel_rfl) hfo (fun Tp Q HQ => ?_)
  simp only [rFW1, bodyFW, Try.f7, Option.getD_some]
  replace hC : Code (Tt.tp w1 Tp 0) A n cap := ⟨hC.le, hC.cap, hC.at_⟩
  replace hG : Try.prog.globals.size ≤ (Tt.tp w1 Tp 0).heap.size := hG
  generalize Tt.tp w1 Tp 0 = w2 at hC hG ⊢
  have hcl := hC.le
  have hcm := hC.cap
  unfold maxLen at hcm
  go_wp2
  refine HQ.out _ _ ?_
  clear HQ
  by_cases hbig : (1048576 : Int) < (n : Int)
  · refine JO.cond L (t := true) hfo (by show Value.bool (decide _) = _; rw [decide_eq_true hbig]) ?_
    refine JO.seq L hfo ?_
    refine JO.pieceQ L (by kernel_rfl) hfo (fun Tp Q HQ => ?_)
    simp only [rFW2, bodyFW, Try.f7, Option.getD_some]
    go_wp2
    refine HQ.out _ _ ?_
    refine JO.ret L hfo ?_
    exact hend _ _ _ rfl
  refine JO.cond L (t := false) hfo (by show Value.bool (decide _) = _; rw [decide_eq_false hbig]) ?_
  refine JO.skip L hfo ?_
  refine JO.seq L hfo ?_
  refine JO.pieceQ L (by kernel_rfl) hfo (fun Tp Q HQ => ?_)
  simp only [rFW3, bodyFW, Try.f7, Option.getD_some]
  replace hC : Code (Tt.tp w2 Tp 0) A n cap := ⟨hC.le, hC.cap, hC.at_⟩
  replace hG : Try.prog.globals.size ≤ (Tt.tp w2 Tp 0).heap.size := hG
  generalize Tt.tp w2 Tp 0 = w3 at hC hG ⊢
  go_wp2_with (go_at_call 25; refine (DrawWaited_any A n cap w3 hC).mono ?_; rintro e w4 ⟨gR, m, cp, rs, x, y, rfl, hrow, hm60, hb4⟩)
  refine HQ.out _ _ ?_
  clear HQ
  obtain ⟨cur, hcur, hcc, hrl, hmc, hcpm, hgR⟩ := lst_of_row hrow
  refine JO.regh (s := 3) (g := gR) (o := 0) (n := m) (c := cp) rfl hcur (fun cs hcs hpl huni => ?_)
  have hgz : gR < w4.heap.size := blk_lt hcur
  have HL : LstAt (put w4 gR (.cells cs 50 (0, 0))) gR cs m cp rs := ⟨put_same hgz, huni, fun j v hv => hpl j v (hcc j v hv) (recs_plain v (List.mem_of_getElem? hv)), hrl, hmc, hcpm⟩
  have hGg : Try.prog.globals.size ≤ gR := by omega
  have hm1 : m ≤ 1048576 := by omega
  generalize put w4 gR (.cells cs 50 (0, 0)) = w5 at HL ⊢
  clear hrow hb4 hcur hcc hpl huni hcs hgz hC hG hbig
  refine JO.seq L hfo ?_
  rw [rFW4_eq]
  refine JO.reg L hfo ?_
  rw [opsFW4_range]
  refine JO.opv L (v := .slice (some ⟨gR, 0, none⟩) m cp) hfo opsFW4_0 rfl (fun T e => rfl) ?_
  simp only [Go.Act.put, List.setIfInBounds_toArray, List.set_cons_zero, List.set_cons_succ]
  refine JO.opv L (v := .int .i64 x) hfo opsFW4_1 rfl (fun T e => rfl) ?_
  simp only [Go.Act.put, List.setIfInBounds_toArray, List.set_cons_zero, List.set_cons_succ]
  refine JO.opv L (v := .int .i64 y) hfo opsFW4_2 rfl (fun T e => rfl) ?_
  simp only [Go.Act.put, List.setIfInBounds_toArray, List.set_cons_zero, List.set_cons_succ]
  refine jo_wait (l := x) (q := y) (A := some ⟨gR, 0, none⟩) (n := m) (cap := cp) (ops := opsFW4) (i := 3) (o := oFW4_3) (rs := rs) rfl hfo rfl opsFW4_3 rfl rfl (by simp [Fm.eval]) (HL.src 0) (fun b' e => by cases e; exact hGg) HL.slc hm1 (fun w6 B => ?_)
  replace HL := HL.bl B
  clear B
  simp only [Fm.fin, opsFW4_3, Option.bind_some, List.setIfInBounds_toArray, List.set_cons_zero, List.set_cons_succ]
  refine JO.opv L (v := .int .i64 (waitM rs x y)) hfo opsFW4_4 rfl (fun T e => rfl) ?_
  simp only [Go.Act.put, List.setIfInBounds_toArray, List.set_cons_zero, List.set_cons_succ]
  refine JO.regEnd L hfo ?_
  refine JO.seq L hfo ?_
  rw [rFW5_eq]
  refine JO.reg L hfo ?_
  rw [opsFW5_range]
  refine JO.opv L (v := .slice (some ⟨gR, 0, none⟩) m cp) hfo opsFW5_0 rfl (fun T e => rfl) ?_
  simp only [Go.Act.put, List.setIfInBounds_toArray, List.set_cons_zero, List.set_cons_succ]
  refine JO.opv L (v := .int .i64 y) hfo opsFW5_1 rfl (fun T e => rfl) ?_
  simp only [Go.Act.put, List.setIfInBounds_toArray, List.set_cons_zero, List.set_cons_succ]
  refine jo_busy (l := 1) (q := y) (A := some ⟨gR, 0, none⟩) (n := m) (cap := cp) (ops := opsFW5) (i := 2) (o := oFW5_2) (rs := rs) rfl hfo rfl opsFW5_2 rfl rfl (by simp [Fm.eval]) (HL.src 0) (fun b' e => by cases e; exact hGg) HL.slc hm1 (fun w7 B => ?_)
  replace HL := HL.bl B
  clear B
  simp only [Fm.fin, opsFW5_2, Option.bind_some, List.setIfInBounds_toArray, List.set_cons_zero, List.set_cons_succ]
  refine JO.opv L (v := .int .i64 (busyM rs 1 y)) hfo opsFW5_3 rfl (fun T e => rfl) ?_
  simp only [Go.Act.put, List.setIfInBounds_toArray, List.set_cons_zero, List.set_cons_succ]
  refine JO.regEnd L hfo ?_
  refine JO.seq L hfo ?_
  refine JO.seq L hfo ?_
  refine JO.pieceQ L (by kernel_rfl) hfo (fun Tp Q HQ => ?_)
  simp only [rFW6, bodyFW, Try.f7, Option.getD_some]
  replace HL := HL.tp Tp 0
  generalize Tt.tp w7 Tp 0 = w8 at HL ⊢
  obtain ⟨N, hN⟩ : ∃ N, N = waitM rs x y := ⟨_, rfl⟩
  obtain ⟨Z, hZ⟩ : ∃ Z, Z = busyM rs 1 y := ⟨_, rfl⟩
  have HN := Lib.hid hN
  have HZ := Lib.hid hZ
  rw [← hN, ← hZ]
  clear hN hZ
  have HS := Lib.hid HL
  go_wp2_with (first
    | (go_at_call 14; refine (spec_WaitedMinutes _ _ _ _ _ rs x y w8 HS.out.slc hm1).mono ?_; rintro e w9 ⟨rfl, b9⟩; rw [← HN.out]; have HS9 := Lib.hid (HS.out.below b9); clear b9)
    | (go_at_call 10; refine (spec_BusyMinutes _ _ _ _ _ rs 1 y w9 HS9.out.slc hm1).mono ?_; rintro e w10 ⟨rfl, b10⟩; rw [← HZ.out]; have HS10 := Lib.hid (HS9.out.below b10); clear b10))
  refine HQ.out _ _ ?_
  clear HQ
  by_cases hneg : N < 0
  · refine JO.cond L (t := true) hfo (by show Value.bool (decide _) = _; rw [decide_eq_true hneg]) ?_
    refine JO.seq L hfo ?_
    refine JO.pieceQ L (by kernel_rfl) hfo (fun Tp Q HQ => ?_)
    simp only [rFW7, bodyFW, Try.f7, Option.getD_some]
    have HT := Lib.hid (HS10.out.tp Tp 0)
    generalize Tt.tp w10 Tp 0 = w11 at HT ⊢
    go_wp2_with (first
      | (go_at_call 14; refine (spec_WaitedMinutes _ _ _ _ _ rs x y w11 HT.out.slc hm1).mono ?_; rintro e w12 ⟨rfl, b12⟩; rw [← HN.out]; have HT2 := Lib.hid (HT.out.below b12); clear b12)
      | (go_at_call 10; refine (spec_BusyMinutes _ _ _ _ _ rs 1 y w12 HT2.out.slc hm1).mono ?_; rintro e w13 ⟨rfl, b13⟩; rw [← HZ.out]; clear b13))
    refine HQ.out _ _ ?_
    clear HQ
    refine JO.ret L hfo ?_
    exact hend _ _ _ rfl
  refine JO.cond L (t := false) hfo (by show Value.bool (decide _) = _; rw [decide_eq_false hneg]) ?_
  refine JO.skip L hfo ?_
  have hN0 : 0 ≤ waitM rs x y := by rw [← HN.out]; omega
  have hq := waitM_clock hN0
  have hck := (waitM_pos hN0).1
  refine JO.seq L hfo ?_
  refine JO.pieceQ L (by kernel_rfl) hfo (fun Tp Q HQ => ?_)
  simp only [rFW8, bodyFW, Try.f7, Option.getD_some]
  have HL := HS10.out.tp Tp 0
  generalize Tt.tp w10 Tp 0 = w11 at HL ⊢
  go_wp2
  refine HQ.out _ _ ?_
  clear HQ
  have eH : ((m : Int) / 2) = ((m / 2 : Nat) : Int) := by omega
  rw [eH]
  exact fw_tail HL hGg hm60 rfl HN.out HZ.out hN0 rfl rfl rfl rfl rfl rfl rfl hend
end
end Go.Proofs.Ytjcpjijihajopaa
