/-
  Part 11 of what stands behind the last text.
-/
import Derived.Test.YtjcpjijihajopaaFWaitPq10
set_option linter.unusedSectionVars false
set_option linter.unusedSimpArgs false
set_option linter.unusedVariables false
namespace Go.Proofs.Ytjcpjijihajopaa
open Go.RowKit Go.Mt Go.Conc Go.Tt Go.Maps
set_option linter.unusedVariables false
noncomputable def bodyRG : Go.Code := (Try.f95.body).getD .skip
noncomputable def rRG7 : Go.Code := match bodyRG with | .seq _ (.seq _ (.seq _ (.seq (a) _))) => a | _ => .skip
noncomputable def opsRG7 : Array Oper := match rRG7 with | .region _ ops _ => ops | _ => #[]
abbrev oRG7_0 : Oper := { dst := some 36, op := Go.Op.fieldAddr 121 (Go.Operand.tmp 2) 2, type := 0, pos := "l6_office.go:151", after := #[], guard := none }
theorem opsRG7_0 : opsRG7[0]? = some oRG7_0 := rfl
abbrev oRG7_1 : Oper := { dst := some 37, op := Go.Op.load 25 (Go.Operand.tmp 36), type := 25, pos := "l6_office.go:151", after := #[{ on := 0, ground := Go.Ground.data }], guard := none }
theorem opsRG7_1 : opsRG7[1]? = some oRG7_1 := rfl
abbrev oRG7_2 : Oper := { dst := some 38, op := Go.Op.fieldAddr 140 (Go.Operand.tmp 3) 0, type := 0, pos := "l6_office.go:151", after := #[], guard := none }
theorem opsRG7_2 : opsRG7[2]? = some oRG7_2 := rfl
abbrev oRG7_3 : Oper := { dst := some 39, op := Go.Op.load 3 (Go.Operand.tmp 38), type := 3, pos := "l6_office.go:151", after := #[{ on := 2, ground := Go.Ground.data }], guard := none }
theorem opsRG7_3 : opsRG7[3]? = some oRG7_3 := rfl
abbrev oRG7_4 : Oper := { dst := some 40, op := Go.Op.move (Go.Operand.tmp 6), type := 73, pos := "l6_office.go:151", after := #[], guard := none }
theorem opsRG7_4 : opsRG7[4]? = some oRG7_4 := rfl
abbrev oRG7_5 : Oper := { dst := some 41, op := Go.Op.indexAddr 73 (Go.Operand.tmp 40) (Go.Operand.const (Go.Value.int Go.IntKind.i64 0)), type := 0, pos := "l6_office.go:151", after := #[{ on := 4, ground := Go.Ground.data }], guard := none }
theorem opsRG7_5 : opsRG7[5]? = some oRG7_5 := rfl
abbrev oRG7_6 : Oper := { dst := some 42, op := Go.Op.load 3 (Go.Operand.tmp 41), type := 3, pos := "l6_office.go:151", after := #[{ on := 5, ground := Go.Ground.data }], guard := none }
theorem opsRG7_6 : opsRG7[6]? = some oRG7_6 := rfl
abbrev oRG7_7 : Oper := { dst := some 43, op := Go.Op.fieldAddr 121 (Go.Operand.tmp 2) 1, type := 0, pos := "l6_office.go:151", after := #[], guard := none }
theorem opsRG7_7 : opsRG7[7]? = some oRG7_7 := rfl
abbrev oRG7_8 : Oper := { dst := some 44, op := Go.Op.load 3 (Go.Operand.tmp 43), type := 3, pos := "l6_office.go:151", after := #[{ on := 7, ground := Go.Ground.data }], guard := none }
theorem opsRG7_8 : opsRG7[8]? = some oRG7_8 := rfl
abbrev oRG7_9 : Oper := { dst := some 45, op := Go.Op.build 50 #[(0, Go.Operand.tmp 39), (1, Go.Operand.tmp 42), (3, Go.Operand.tmp 44), (4, Go.Operand.const (Go.Value.int Go.IntKind.i64 (-1))), (5, Go.Operand.const (Go.Value.int Go.IntKind.i64 (-1))), (6, Go.Operand.const (Go.Value.string { data := #[111, 112, 101, 110] }))], type := 50, pos := "l6_office.go:151", after := #[{ on := 3, ground := Go.Ground.data }, { on := 6, ground := Go.Ground.data }, { on := 8, ground := Go.Ground.data }], guard := none }
theorem opsRG7_9 : opsRG7[9]? = some oRG7_9 := rfl
abbrev oRG7_10 : Oper := { dst := some 46, op := Go.Op.buildSlice 25 1 #[(0, Go.Operand.tmp 45)], type := 25, pos := "l6_office.go:151", after := #[{ on := 9, ground := Go.Ground.data }], guard := none }
theorem opsRG7_10 : opsRG7[10]? = some oRG7_10 := rfl
abbrev oRG7_11 : Oper := { dst := some 47, op := Go.Op.call { callee := Go.Callee.builtin Go.Builtin.append, args := #[Go.Operand.tmp 37, Go.Operand.tmp 46], argTypes := #[25, 25] }, type := 25, pos := "l6_office.go:151", after := #[{ on := 1, ground := Go.Ground.data }, { on := 10, ground := Go.Ground.data }], guard := none }
theorem opsRG7_11 : opsRG7[11]? = some oRG7_11 := rfl
abbrev oRG7_12 : Oper := { dst := some 48, op := Go.Op.fieldAddr 121 (Go.Operand.tmp 2) 2, type := 0, pos := "l6_office.go:151", after := #[{ on := 0, ground := Go.Ground.phase }, { on := 1, ground := Go.Ground.phase }, { on := 2, ground := Go.Ground.phase }, { on := 3, ground := Go.Ground.phase }, { on := 4, ground := Go.Ground.phase }, { on := 5, ground := Go.Ground.phase }, { on := 6, ground := Go.Ground.phase }, { on := 7, ground := Go.Ground.phase }, { on := 8, ground := Go.Ground.phase }, { on := 9, ground := Go.Ground.phase }, { on := 10, ground := Go.Ground.phase }, { on := 11, ground := Go.Ground.phase }], guard := none }
theorem opsRG7_12 : opsRG7[12]? = some oRG7_12 := rfl
abbrev oRG7_13 : Oper := { dst := none, op := Go.Op.store 25 (Go.Operand.tmp 48) (Go.Operand.tmp 47), type := 0, pos := "l6_office.go:151", after := #[{ on := 12, ground := Go.Ground.data }, { on := 11, ground := Go.Ground.data }, { on := 11, ground := Go.Ground.chain }, { on := 0, ground := Go.Ground.phase }, { on := 1, ground := Go.Ground.phase }, { on := 2, ground := Go.Ground.phase }, { on := 3, ground := Go.Ground.phase }, { on := 4, ground := Go.Ground.phase }, { on := 5, ground := Go.Ground.phase }, { on := 6, ground := Go.Ground.phase }, { on := 7, ground := Go.Ground.phase }, { on := 8, ground := Go.Ground.phase }, { on := 9, ground := Go.Ground.phase }, { on := 10, ground := Go.Ground.phase }, { on := 11, ground := Go.Ground.phase }], guard := none }
structure DRG7 (V : Nat → Value) (w w3 : World) (gb gf gR nR cR g1 c1 nf cf : Nat) (cc l clk : Int) : Prop where
  v2 : V 2 = .pointer (some ⟨gb, 0, none⟩)
  v3 : V 3 = .pointer (some ⟨gb + 1, 0, none⟩)
  v6 : V 6 = .slice (some ⟨gf, 0, none⟩) nf cf
  v36 : V 36 = .pointer (some ⟨gb, 4, none⟩)
  v37 : V 37 = .slice (some ⟨gR, 0, none⟩) nR cR
  v38 : V 38 = .pointer (some ⟨gb + 1, 0, none⟩)
  v39 : V 39 = .int .i64 (cc)
  v40 : V 40 = .slice (some ⟨gf, 0, none⟩) nf cf
  v41 : V 41 = .pointer (some ⟨gf, 0, none⟩)
  v42 : V 42 = .int .i64 (l)
  v43 : V 43 = .pointer (some ⟨gb, 3, none⟩)
  v44 : V 44 = .int .i64 (clk)
  v45 : V 45 = .agg #[.int .i64 cc, .int .i64 l, .int .i64 0, .int .i64 clk, .int .i64 (-1), .int .i64 (-1), .string openB]
  v46 : V 46 = .slice (some ⟨w.heap.size, 0, none⟩) 1 1
  v47 : V 47 = .slice (some ⟨g1, 0, none⟩) (nR + 1) c1
  v48 : V 48 = .pointer (some ⟨gb, 4, none⟩)
  h3 : w.cell? ⟨gb, 3, none⟩ = some (.int .i64 clk)
  h4 : w.cell? ⟨gb, 4, none⟩ = some (.slice (some ⟨gR, 0, none⟩) nR cR)
  hq : w.cell? ⟨gb + 1, 0, none⟩ = some (.int .i64 cc)
  hf : w.cell? ⟨gf, 0, none⟩ = some (.int .i64 l)
  hnf : 0 < nf
  hap : (Builtin.append_ #[25, 25] 25 #[.slice (some ⟨gR, 0, none⟩) nR cR, .slice (some ⟨w.heap.size, 0, none⟩) 1 1]).run Try.prog ((w.alloc (.cells #[.int .i64 cc, .int .i64 l, .int .i64 0, .int .i64 clk, .int .i64 (-1), .int .i64 (-1), .string openB] 50)).drew) = .ok (.slice (some ⟨g1, 0, none⟩) (nR + 1) c1) w3
  hst : w3.cell? ⟨gb, 4, none⟩ = some (.slice (some ⟨gR, 0, none⟩) nR cR)
  hfz : w3.frozen? ⟨gb, 4, none⟩ = false
def WRG7 (w w3 : World) (gb gf gR nR cR g1 c1 nf cf : Nat) (cc l clk : Int) : Nat → World
  | 0 => w.drew
  | 1 => (w.alloc (.cells #[.int .i64 cc, .int .i64 l, .int .i64 0, .int .i64 clk, .int .i64 (-1), .int .i64 (-1), .string openB] 50)).drew
  | 2 => w3
  | _ => w3.setCell ⟨gb, 4, none⟩ (.slice (some ⟨g1, 0, none⟩) (nR + 1) c1)
section
variable {V : Nat → Value} {Tf : Array Value} {w w3 : World} {gb gf gR nR cR g1 c1 nf cf : Nat} {cc l clk : Int}
theorem dRG7_0 (E : DRG7 V w w3 gb gf gR nR cR g1 c1 nf cf cc l clk) (hT : TfV Tf V) : OpW Try.prog opsRG7 [10, 11, 13] (WRG7 w w3 gb gf gR nR cR g1 c1 nf cf cc l clk) Tf 0 oRG7_0 (V 36) := by
  have e2 := E.v2;
  refine .val (by decide) (wanted_no rfl) fun kk hkk hm => ?_
  rw [E.v36]; unfold execOp; go_simp
theorem dRG7_1 (E : DRG7 V w w3 gb gf gR nR cR g1 c1 nf cf cc l clk) (hT : TfV Tf V) : OpW Try.prog opsRG7 [10, 11, 13] (WRG7 w w3 gb gf gR nR cR g1 c1 nf cf cc l clk) Tf 1 oRG7_1 (V 37) := by
  have e36 := E.v36;
  refine .val (by decide) (wanted_no rfl) fun kk hkk hm => ?_
  rw [E.v37]; rcases kk with _ | _ | _ | _ | kk
  · show (execOp _ _).run _ (w.drew) = Result.ok _ (w.drew); have hh : w.drew.cell? _ = _ := E.h4; unfold execOp; go_simp
  · show (execOp _ _).run _ ((w.alloc (.cells #[.int .i64 cc, .int .i64 l, .int .i64 0, .int .i64 clk, .int .i64 (-1), .int .i64 (-1), .string openB] 50)).drew) = Result.ok _ ((w.alloc (.cells #[.int .i64 cc, .int .i64 l, .int .i64 0, .int .i64 clk, .int .i64 (-1), .int .i64 (-1), .string openB] 50)).drew); have hh := cell_alloc E.h4 (.cells #[.int .i64 cc, .int .i64 l, .int .i64 0, .int .i64 clk, .int .i64 (-1), .int .i64 (-1), .string openB] 50); unfold execOp; go_simp
  · exact absurd hm (by decide +kernel)
  · exact absurd hm (by decide +kernel)
  · simp at hkk
theorem dRG7_2 (E : DRG7 V w w3 gb gf gR nR cR g1 c1 nf cf cc l clk) (hT : TfV Tf V) : OpW Try.prog opsRG7 [10, 11, 13] (WRG7 w w3 gb gf gR nR cR g1 c1 nf cf cc l clk) Tf 2 oRG7_2 (V 38) := by
  have e3 := E.v3;
  refine .val (by decide) (wanted_no rfl) fun kk hkk hm => ?_
  rw [E.v38]; unfold execOp; go_simp
theorem dRG7_3 (E : DRG7 V w w3 gb gf gR nR cR g1 c1 nf cf cc l clk) (hT : TfV Tf V) : OpW Try.prog opsRG7 [10, 11, 13] (WRG7 w w3 gb gf gR nR cR g1 c1 nf cf cc l clk) Tf 3 oRG7_3 (V 39) := by
  have e38 := E.v38;
  refine .val (by decide) (wanted_no rfl) fun kk hkk hm => ?_
  rw [E.v39]; rcases kk with _ | _ | _ | _ | kk
  · show (execOp _ _).run _ (w.drew) = Result.ok _ (w.drew); have hh : w.drew.cell? _ = _ := E.hq; unfold execOp; go_simp
  · exact absurd hm (by decide +kernel)
  · exact absurd hm (by decide +kernel)
  · exact absurd hm (by decide +kernel)
  · simp at hkk
theorem dRG7_4 (E : DRG7 V w w3 gb gf gR nR cR g1 c1 nf cf cc l clk) (hT : TfV Tf V) : OpW Try.prog opsRG7 [10, 11, 13] (WRG7 w w3 gb gf gR nR cR g1 c1 nf cf cc l clk) Tf 4 oRG7_4 (V 40) := by
  have e6 := E.v6;
  refine .val (by decide) (wanted_no rfl) fun kk hkk hm => ?_
  rw [E.v40]; unfold execOp; go_simp
theorem dRG7_5 (E : DRG7 V w w3 gb gf gR nR cR g1 c1 nf cf cc l clk) (hT : TfV Tf V) : OpW Try.prog opsRG7 [10, 11, 13] (WRG7 w w3 gb gf gR nR cR g1 c1 nf cf cc l clk) Tf 5 oRG7_5 (V 41) := by
  have e40 := E.v40;
  refine .val (by decide) (wanted_no rfl) fun kk hkk hm => ?_
  rw [E.v41]; have hne : nf ≠ 0 := by have := E.hnf; omega
  unfold execOp; go_simp
theorem dRG7_6 (E : DRG7 V w w3 gb gf gR nR cR g1 c1 nf cf cc l clk) (hT : TfV Tf V) : OpW Try.prog opsRG7 [10, 11, 13] (WRG7 w w3 gb gf gR nR cR g1 c1 nf cf cc l clk) Tf 6 oRG7_6 (V 42) := by
  have e41 := E.v41;
  refine .val (by decide) (wanted_no rfl) fun kk hkk hm => ?_
  rw [E.v42]; rcases kk with _ | _ | _ | _ | kk
  · show (execOp _ _).run _ (w.drew) = Result.ok _ (w.drew); have hh : w.drew.cell? _ = _ := E.hf; unfold execOp; go_simp
  · exact absurd hm (by decide +kernel)
  · exact absurd hm (by decide +kernel)
  · exact absurd hm (by decide +kernel)
  · simp at hkk
theorem dRG7_7 (E : DRG7 V w w3 gb gf gR nR cR g1 c1 nf cf cc l clk) (hT : TfV Tf V) : OpW Try.prog opsRG7 [10, 11, 13] (WRG7 w w3 gb gf gR nR cR g1 c1 nf cf cc l clk) Tf 7 oRG7_7 (V 43) := by
  have e2 := E.v2;
  refine .val (by decide) (wanted_no rfl) fun kk hkk hm => ?_
  rw [E.v43]; unfold execOp; go_simp
theorem dRG7_8 (E : DRG7 V w w3 gb gf gR nR cR g1 c1 nf cf cc l clk) (hT : TfV Tf V) : OpW Try.prog opsRG7 [10, 11, 13] (WRG7 w w3 gb gf gR nR cR g1 c1 nf cf cc l clk) Tf 8 oRG7_8 (V 44) := by
  have e43 := E.v43;
  refine .val (by decide) (wanted_no rfl) fun kk hkk hm => ?_
  rw [E.v44]; rcases kk with _ | _ | _ | _ | kk
  · show (execOp _ _).run _ (w.drew) = Result.ok _ (w.drew); have hh : w.drew.cell? _ = _ := E.h3; unfold execOp; go_simp
  · exact absurd hm (by decide +kernel)
  · exact absurd hm (by decide +kernel)
  · exact absurd hm (by decide +kernel)
  · simp at hkk
theorem dRG7_9 (E : DRG7 V w w3 gb gf gR nR cR g1 c1 nf cf cc l clk) (hT : TfV Tf V) : OpW Try.prog opsRG7 [10, 11, 13] (WRG7 w w3 gb gf gR nR cR g1 c1 nf cf cc l clk) Tf 9 oRG7_9 (V 45) := by
  have e39 := E.v39; have e42 := E.v42; have e44 := E.v44;
  refine .val (by decide) (wanted_no rfl) fun kk hkk hm => ?_
  rw [E.v45]; unfold execOp; go_simp; rfl
theorem dRG7_10 (E : DRG7 V w w3 gb gf gR nR cR g1 c1 nf cf cc l clk) (hT : TfV Tf V) : OpW Try.prog opsRG7 [10, 11, 13] (WRG7 w w3 gb gf gR nR cR g1 c1 nf cf cc l clk) Tf 10 oRG7_10 (V 46) := by
  have e45 := E.v45;
  refine .act 0 rfl (wanted_no rfl) ?_
  rw [E.v46]; show (execOp _ _).run _ (w.drew) = Result.ok _ ((w.alloc (.cells #[.int .i64 cc, .int .i64 l, .int .i64 0, .int .i64 clk, .int .i64 (-1), .int .i64 (-1), .string openB] 50)).drew); unfold execOp; go_simp
theorem dRG7_11 (E : DRG7 V w w3 gb gf gR nR cR g1 c1 nf cf cc l clk) (hT : TfV Tf V) : OpW Try.prog opsRG7 [10, 11, 13] (WRG7 w w3 gb gf gR nR cR g1 c1 nf cf cc l clk) Tf 11 oRG7_11 (V 47) := by
  have e37 := E.v37; have e46 := E.v46;
  refine .act 1 rfl (wanted_no rfl) ?_
  rw [E.v47]; exact exec_app rfl (evT hT E.v37) (evT hT E.v46) E.hap
theorem dRG7_12 (E : DRG7 V w w3 gb gf gR nR cR g1 c1 nf cf cc l clk) (hT : TfV Tf V) : OpW Try.prog opsRG7 [10, 11, 13] (WRG7 w w3 gb gf gR nR cR g1 c1 nf cf cc l clk) Tf 12 oRG7_12 (V 48) := by
  have e2 := E.v2;
  refine .val (by decide) (wanted_no rfl) fun kk hkk hm => ?_
  rw [E.v48]; unfold execOp; go_simp
theorem dRG7_13 (E : DRG7 V w w3 gb gf gR nR cR g1 c1 nf cf cc l clk) (hT : TfV Tf V) : OpW Try.prog opsRG7 [10, 11, 13] (WRG7 w w3 gb gf gR nR cR g1 c1 nf cf cc l clk) Tf 13 oRG7_13 (undef) := by
  have e47 := E.v47; have e48 := E.v48;
  refine .skp 2 rfl (wanted_no rfl) rfl ?_
  have hs := E.hst; have hf := E.hfz; show (execOp _ _).run _ (w3) = Result.ok _ (w3.setCell ⟨gb, 4, none⟩ (.slice (some ⟨g1, 0, none⟩) (nR + 1) c1)); unfold execOp; go_simp
theorem opsRG7_list : opsRG7.toList = [oRG7_0, oRG7_1, oRG7_2, oRG7_3, oRG7_4, oRG7_5, oRG7_6, oRG7_7, oRG7_8, oRG7_9, oRG7_10, oRG7_11, oRG7_12, oRG7_13] := rfl
theorem dRG7_all (E : DRG7 V w w3 gb gf gR nR cR g1 c1 nf cf cc l clk) (hT : TfV Tf V) : ∀ (i : Nat) (o : Oper), opsRG7[i]? = some o → OpW Try.prog opsRG7 [10, 11, 13] (WRG7 w w3 gb gf gR nR cR g1 c1 nf cf cc l clk) Tf i o (valV V o) :=
  allL_ops opsRG7_list ⟨dRG7_0 E hT, dRG7_1 E hT, dRG7_2 E hT, dRG7_3 E hT, dRG7_4 E hT, dRG7_5 E hT, dRG7_6 E hT, dRG7_7 E hT, dRG7_8 E hT, dRG7_9 E hT, dRG7_10 E hT, dRG7_11 E hT, dRG7_12 E hT, dRG7_13 E hT, trivial⟩
end
theorem opsRG7_ok : ordOk opsRG7 = true := by kernel_rfl
theorem opsRG7_ch : chainOk opsRG7 [10, 11, 13] = true := by kernel_rfl
theorem opsRG7_dst : opsRG7.toList.map (·.dst) = [some 36, some 37, some 38, some 39, some 40, some 41, some 42, some 43, some 44, some 45, some 46, some 47, some 48, none] := by rw [opsRG7_list]; rfl
def fRG7 (w w3 : World) (gb gf gR nR cR g1 c1 nf cf : Nat) (cc l clk : Int) (i : Nat) : Value := ([.pointer (some ⟨gb, 4, none⟩), .slice (some ⟨gR, 0, none⟩) nR cR, .pointer (some ⟨gb + 1, 0, none⟩), .int .i64 (cc), .slice (some ⟨gf, 0, none⟩) nf cf, .pointer (some ⟨gf, 0, none⟩), .int .i64 (l), .pointer (some ⟨gb, 3, none⟩), .int .i64 (clk), .agg #[.int .i64 cc, .int .i64 l, .int .i64 0, .int .i64 clk, .int .i64 (-1), .int .i64 (-1), .string openB], .slice (some ⟨w.heap.size, 0, none⟩) 1 1, .slice (some ⟨g1, 0, none⟩) (nR + 1) c1, .pointer (some ⟨gb, 4, none⟩), undef] : List Value).getD i undef
theorem wp_RG7 {Q : Exit → Go.Act → World → Prop} {d : List Deferred} {t0 : Array Value} (w w3 : World) (gb gf gR nR cR g1 c1 nf cf : Nat) (cc l clk : Int) (hz : t0.size = 60) (t2 : t0.getD 2 undef = .pointer (some ⟨gb, 0, none⟩)) (t3 : t0.getD 3 undef = .pointer (some ⟨gb + 1, 0, none⟩)) (t6 : t0.getD 6 undef = .slice (some ⟨gf, 0, none⟩) nf cf) (h3 : w.cell? ⟨gb, 3, none⟩ = some (.int .i64 clk)) (h4 : w.cell? ⟨gb, 4, none⟩ = some (.slice (some ⟨gR, 0, none⟩) nR cR)) (hq : w.cell? ⟨gb + 1, 0, none⟩ = some (.int .i64 cc)) (hf : w.cell? ⟨gf, 0, none⟩ = some (.int .i64 l)) (hnf : 0 < nf) (hap : (Builtin.append_ #[25, 25] 25 #[.slice (some ⟨gR, 0, none⟩) nR cR, .slice (some ⟨w.heap.size, 0, none⟩) 1 1]).run Try.prog ((w.alloc (.cells #[.int .i64 cc, .int .i64 l, .int .i64 0, .int .i64 clk, .int .i64 (-1), .int .i64 (-1), .string openB] 50)).drew) = .ok (.slice (some ⟨g1, 0, none⟩) (nR + 1) c1) w3) (hst : w3.cell? ⟨gb, 4, none⟩ = some (.slice (some ⟨gR, 0, none⟩) nR cR)) (hfz : w3.frozen? ⟨gb, 4, none⟩ = false) (h0 : WRG7 w w3 gb gf gR nR cR g1 c1 nf cf cc l clk 0 = w.drew) (hk : Q .normal ⟨fillT opsRG7 (fRG7 w w3 gb gf gR nR cR g1 c1 nf cf cc l clk) t0, d⟩ (w3.setCell ⟨gb, 4, none⟩ (.slice (some ⟨g1, 0, none⟩) (nR + 1) c1))) :
    (Go.Code.region 7 opsRG7 true).wp Try.prog Q ⟨t0, d⟩ w := by
  refine wp_drawnDV (ws := [10, 11, 13]) (Wd := WRG7 w w3 gb gf gR nR cR g1 c1 nf cf cc l clk) (vals := fRG7 w w3 gb gf gR nR cR g1 c1 nf cf cc l clk) Try.checked.mixed opsRG7_ok (by decide) opsRG7_ch h0 (by rw [hz]; exact isDst_lt (by kernel_rfl)) (fun V hU hV => ?_) hk
  have E : DRG7 V w w3 gb gf gR nR cR g1 c1 nf cf cc l clk := ⟨(hV 2 (by kernel_rfl)).trans t2, (hV 3 (by kernel_rfl)).trans t3, (hV 6 (by kernel_rfl)).trans t6, hU 0 _ 36 opsRG7_0 rfl, hU 1 _ 37 opsRG7_1 rfl, hU 2 _ 38 opsRG7_2 rfl, hU 3 _ 39 opsRG7_3 rfl, hU 4 _ 40 opsRG7_4 rfl, hU 5 _ 41 opsRG7_5 rfl, hU 6 _ 42 opsRG7_6 rfl, hU 7 _ 43 opsRG7_7 rfl, hU 8 _ 44 opsRG7_8 rfl, hU 9 _ 45 opsRG7_9 rfl, hU 10 _ 46 opsRG7_10 rfl, hU 11 _ 47 opsRG7_11 rfl, hU 12 _ 48 opsRG7_12 rfl, h3, h4, hq, hf, hnf, hap, hst, hfz⟩
  exact fun Tf hT i o e => dRG7_all E hT i o e
noncomputable def bodyRU : Go.Code := (Try.f97.body).getD .skip
noncomputable def rRU10 : Go.Code := match bodyRU with | .seq _ (.seq _ (.seq _ (.seq _ (.seq _ (.seq (a) _))))) => a | _ => .skip
noncomputable def opsRU10 : Array Oper := match rRU10 with | .region _ ops _ => ops | _ => #[]
abbrev oRU10_0 : Oper := { dst := some 38, op := Go.Op.fieldAddr 121 (Go.Operand.tmp 2) 2, type := 0, pos := "l6_office.go:185", after := #[], guard := none }
theorem opsRU10_0 : opsRU10[0]? = some oRU10_0 := rfl
abbrev oRU10_1 : Oper := { dst := some 39, op := Go.Op.load 25 (Go.Operand.tmp 38), type := 25, pos := "l6_office.go:185", after := #[{ on := 0, ground := Go.Ground.data }], guard := none }
theorem opsRU10_1 : opsRU10[1]? = some oRU10_1 := rfl
abbrev oRU10_2 : Oper := { dst := some 40, op := Go.Op.fieldAddr 140 (Go.Operand.tmp 7) 0, type := 0, pos := "l6_office.go:185", after := #[], guard := none }
theorem opsRU10_2 : opsRU10[2]? = some oRU10_2 := rfl
abbrev oRU10_3 : Oper := { dst := some 41, op := Go.Op.load 3 (Go.Operand.tmp 40), type := 3, pos := "l6_office.go:185", after := #[{ on := 2, ground := Go.Ground.data }], guard := none }
theorem opsRU10_3 : opsRU10[3]? = some oRU10_3 := rfl
abbrev oRU10_4 : Oper := { dst := some 42, op := Go.Op.move (Go.Operand.tmp 6), type := 73, pos := "l6_office.go:185", after := #[], guard := none }
theorem opsRU10_4 : opsRU10[4]? = some oRU10_4 := rfl
abbrev oRU10_5 : Oper := { dst := some 43, op := Go.Op.indexAddr 73 (Go.Operand.tmp 42) (Go.Operand.const (Go.Value.int Go.IntKind.i64 0)), type := 0, pos := "l6_office.go:185", after := #[{ on := 4, ground := Go.Ground.data }], guard := none }
theorem opsRU10_5 : opsRU10[5]? = some oRU10_5 := rfl
abbrev oRU10_6 : Oper := { dst := some 44, op := Go.Op.load 3 (Go.Operand.tmp 43), type := 3, pos := "l6_office.go:185", after := #[{ on := 5, ground := Go.Ground.data }], guard := none }
theorem opsRU10_6 : opsRU10[6]? = some oRU10_6 := rfl
abbrev oRU10_7 : Oper := { dst := some 45, op := Go.Op.move (Go.Operand.tmp 1), type := 3, pos := "l6_office.go:185", after := #[], guard := none }
theorem opsRU10_7 : opsRU10[7]? = some oRU10_7 := rfl
abbrev oRU10_8 : Oper := { dst := some 46, op := Go.Op.fieldAddr 121 (Go.Operand.tmp 2) 1, type := 0, pos := "l6_office.go:185", after := #[], guard := none }
theorem opsRU10_8 : opsRU10[8]? = some oRU10_8 := rfl
abbrev oRU10_9 : Oper := { dst := some 47, op := Go.Op.load 3 (Go.Operand.tmp 46), type := 3, pos := "l6_office.go:185", after := #[{ on := 8, ground := Go.Ground.data }], guard := none }
theorem opsRU10_9 : opsRU10[9]? = some oRU10_9 := rfl
abbrev oRU10_10 : Oper := { dst := some 48, op := Go.Op.fieldAddr 121 (Go.Operand.tmp 2) 1, type := 0, pos := "l6_office.go:185", after := #[], guard := none }
theorem opsRU10_10 : opsRU10[10]? = some oRU10_10 := rfl
abbrev oRU10_11 : Oper := { dst := some 49, op := Go.Op.load 3 (Go.Operand.tmp 48), type := 3, pos := "l6_office.go:185", after := #[{ on := 10, ground := Go.Ground.data }], guard := none }
theorem opsRU10_11 : opsRU10[11]? = some oRU10_11 := rfl
abbrev oRU10_12 : Oper := { dst := some 50, op := Go.Op.build 50 #[(0, Go.Operand.tmp 41), (1, Go.Operand.tmp 44), (2, Go.Operand.tmp 45), (3, Go.Operand.tmp 47), (4, Go.Operand.tmp 49), (5, Go.Operand.const (Go.Value.int Go.IntKind.i64 (-1))), (6, Go.Operand.const (Go.Value.string { data := #[111, 112, 101, 110] }))], type := 50, pos := "l6_office.go:185", after := #[{ on := 3, ground := Go.Ground.data }, { on := 6, ground := Go.Ground.data }, { on := 7, ground := Go.Ground.data }, { on := 9, ground := Go.Ground.data }, { on := 11, ground := Go.Ground.data }], guard := none }
theorem opsRU10_12 : opsRU10[12]? = some oRU10_12 := rfl
abbrev oRU10_13 : Oper := { dst := some 51, op := Go.Op.buildSlice 25 1 #[(0, Go.Operand.tmp 50)], type := 25, pos := "l6_office.go:185", after := #[{ on := 12, ground := Go.Ground.data }], guard := none }
theorem opsRU10_13 : opsRU10[13]? = some oRU10_13 := rfl
abbrev oRU10_14 : Oper := { dst := some 52, op := Go.Op.call { callee := Go.Callee.builtin Go.Builtin.append, args := #[Go.Operand.tmp 39, Go.Operand.tmp 51], argTypes := #[25, 25] }, type := 25, pos := "l6_office.go:185", after := #[{ on := 1, ground := Go.Ground.data }, { on := 13, ground := Go.Ground.data }], guard := none }
theorem opsRU10_14 : opsRU10[14]? = some oRU10_14 := rfl
abbrev oRU10_15 : Oper := { dst := some 53, op := Go.Op.fieldAddr 121 (Go.Operand.tmp 2) 2, type := 0, pos := "l6_office.go:185", after := #[{ on := 0, ground := Go.Ground.phase }, { on := 1, ground := Go.Ground.phase }, { on := 2, ground := Go.Ground.phase }, { on := 3, ground := Go.Ground.phase }, { on := 4, ground := Go.Ground.phase }, { on := 5, ground := Go.Ground.phase }, { on := 6, ground := Go.Ground.phase }, { on := 7, ground := Go.Ground.phase }, { on := 8, ground := Go.Ground.phase }, { on := 9, ground := Go.Ground.phase }, { on := 10, ground := Go.Ground.phase }, { on := 11, ground := Go.Ground.phase }, { on := 12, ground := Go.Ground.phase }, { on := 13, ground := Go.Ground.phase }, { on := 14, ground := Go.Ground.phase }], guard := none }
theorem opsRU10_15 : opsRU10[15]? = some oRU10_15 := rfl
abbrev oRU10_16 : Oper := { dst := none, op := Go.Op.store 25 (Go.Operand.tmp 53) (Go.Operand.tmp 52), type := 0, pos := "l6_office.go:185", after := #[{ on := 15, ground := Go.Ground.data }, { on := 14, ground := Go.Ground.data }, { on := 14, ground := Go.Ground.chain }, { on := 0, ground := Go.Ground.phase }, { on := 1, ground := Go.Ground.phase }, { on := 2, ground := Go.Ground.phase }, { on := 3, ground := Go.Ground.phase }, { on := 4, ground := Go.Ground.phase }, { on := 5, ground := Go.Ground.phase }, { on := 6, ground := Go.Ground.phase }, { on := 7, ground := Go.Ground.phase }, { on := 8, ground := Go.Ground.phase }, { on := 9, ground := Go.Ground.phase }, { on := 10, ground := Go.Ground.phase }, { on := 11, ground := Go.Ground.phase }, { on := 12, ground := Go.Ground.phase }, { on := 13, ground := Go.Ground.phase }, { on := 14, ground := Go.Ground.phase }], guard := none }
structure DRU10 (V : Nat → Value) (w w3 : World) (gb gc gf gR nR cR g1 c1 nf cf : Nat) (cc l op clk : Int) : Prop where
  v1 : V 1 = .int .i64 (op)
  v2 : V 2 = .pointer (some ⟨gb, 0, none⟩)
  v6 : V 6 = .slice (some ⟨gf, 0, none⟩) nf cf
  v7 : V 7 = .pointer (some ⟨gc, 0, none⟩)
  v38 : V 38 = .pointer (some ⟨gb, 4, none⟩)
  v39 : V 39 = .slice (some ⟨gR, 0, none⟩) nR cR
  v40 : V 40 = .pointer (some ⟨gc, 0, none⟩)
  v41 : V 41 = .int .i64 (cc)
  v42 : V 42 = .slice (some ⟨gf, 0, none⟩) nf cf
  v43 : V 43 = .pointer (some ⟨gf, 0, none⟩)
  v44 : V 44 = .int .i64 (l)
  v45 : V 45 = .int .i64 (op)
  v46 : V 46 = .pointer (some ⟨gb, 3, none⟩)
  v47 : V 47 = .int .i64 (clk)
  v48 : V 48 = .pointer (some ⟨gb, 3, none⟩)
  v49 : V 49 = .int .i64 (clk)
  v50 : V 50 = .agg #[.int .i64 cc, .int .i64 l, .int .i64 op, .int .i64 clk, .int .i64 clk, .int .i64 (-1), .string openB]
  v51 : V 51 = .slice (some ⟨w.heap.size, 0, none⟩) 1 1
  v52 : V 52 = .slice (some ⟨g1, 0, none⟩) (nR + 1) c1
  v53 : V 53 = .pointer (some ⟨gb, 4, none⟩)
  h3 : w.cell? ⟨gb, 3, none⟩ = some (.int .i64 clk)
  h4 : w.cell? ⟨gb, 4, none⟩ = some (.slice (some ⟨gR, 0, none⟩) nR cR)
  hq : w.cell? ⟨gc, 0, none⟩ = some (.int .i64 cc)
  hf : w.cell? ⟨gf, 0, none⟩ = some (.int .i64 l)
  hnf : 0 < nf
  hap : (Builtin.append_ #[25, 25] 25 #[.slice (some ⟨gR, 0, none⟩) nR cR, .slice (some ⟨w.heap.size, 0, none⟩) 1 1]).run Try.prog ((w.alloc (.cells #[.int .i64 cc, .int .i64 l, .int .i64 op, .int .i64 clk, .int .i64 clk, .int .i64 (-1), .string openB] 50)).drew) = .ok (.slice (some ⟨g1, 0, none⟩) (nR + 1) c1) w3
  hst : w3.cell? ⟨gb, 4, none⟩ = some (.slice (some ⟨gR, 0, none⟩) nR cR)
  hfz : w3.frozen? ⟨gb, 4, none⟩ = false
def WRU10 (w w3 : World) (gb gc gf gR nR cR g1 c1 nf cf : Nat) (cc l op clk : Int) : Nat → World
  | 0 => w.drew
  | 1 => (w.alloc (.cells #[.int .i64 cc, .int .i64 l, .int .i64 op, .int .i64 clk, .int .i64 clk, .int .i64 (-1), .string openB] 50)).drew
  | 2 => w3
  | _ => w3.setCell ⟨gb, 4, none⟩ (.slice (some ⟨g1, 0, none⟩) (nR + 1) c1)
section
variable {V : Nat → Value} {Tf : Array Value} {w w3 : World} {gb gc gf gR nR cR g1 c1 nf cf : Nat} {cc l op clk : Int}
theorem dRU10_0 (E : DRU10 V w w3 gb gc gf gR nR cR g1 c1 nf cf cc l op clk) (hT : TfV Tf V) : OpW Try.prog opsRU10 [13, 14, 16] (WRU10 w w3 gb gc gf gR nR cR g1 c1 nf cf cc l op clk) Tf 0 oRU10_0 (V 38) := by
  have e2 := E.v2;
  refine .val (by decide) (wanted_no rfl) fun kk hkk hm => ?_
  rw [E.v38]; unfold execOp; go_simp
theorem dRU10_1 (E : DRU10 V w w3 gb gc gf gR nR cR g1 c1 nf cf cc l op clk) (hT : TfV Tf V) : OpW Try.prog opsRU10 [13, 14, 16] (WRU10 w w3 gb gc gf gR nR cR g1 c1 nf cf cc l op clk) Tf 1 oRU10_1 (V 39) := by
  have e38 := E.v38;
  refine .val (by decide) (wanted_no rfl) fun kk hkk hm => ?_
  rw [E.v39]; rcases kk with _ | _ | _ | _ | kk
  · show (execOp _ _).run _ (w.drew) = Result.ok _ (w.drew); have hh : w.drew.cell? _ = _ := E.h4; unfold execOp; go_simp
  · show (execOp _ _).run _ ((w.alloc (.cells #[.int .i64 cc, .int .i64 l, .int .i64 op, .int .i64 clk, .int .i64 clk, .int .i64 (-1), .string openB] 50)).drew) = Result.ok _ ((w.alloc (.cells #[.int .i64 cc, .int .i64 l, .int .i64 op, .int .i64 clk, .int .i64 clk, .int .i64 (-1), .string openB] 50)).drew); have hh := cell_alloc E.h4 (.cells #[.int .i64 cc, .int .i64 l, .int .i64 op, .int .i64 clk, .int .i64 clk, .int .i64 (-1), .string openB] 50); unfold execOp; go_simp
  · exact absurd hm (by decide +kernel)
  · exact absurd hm (by decide +kernel)
  · simp at hkk
theorem dRU10_2 (E : DRU10 V w w3 gb gc gf gR nR cR g1 c1 nf cf cc l op clk) (hT : TfV Tf V) : OpW Try.prog opsRU10 [13, 14, 16] (WRU10 w w3 gb gc gf gR nR cR g1 c1 nf cf cc l op clk) Tf 2 oRU10_2 (V 40) := by
  have e7 := E.v7;
  refine .val (by decide) (wanted_no rfl) fun kk hkk hm => ?_
  rw [E.v40]; unfold execOp; go_simp
theorem dRU10_3 (E : DRU10 V w w3 gb gc gf gR nR cR g1 c1 nf cf cc l op clk) (hT : TfV Tf V) : OpW Try.prog opsRU10 [13, 14, 16] (WRU10 w w3 gb gc gf gR nR cR g1 c1 nf cf cc l op clk) Tf 3 oRU10_3 (V 41) := by
  have e40 := E.v40;
  refine .val (by decide) (wanted_no rfl) fun kk hkk hm => ?_
  rw [E.v41]; rcases kk with _ | _ | _ | _ | kk
  · show (execOp _ _).run _ (w.drew) = Result.ok _ (w.drew); have hh : w.drew.cell? _ = _ := E.hq; unfold execOp; go_simp
  · exact absurd hm (by decide +kernel)
  · exact absurd hm (by decide +kernel)
  · exact absurd hm (by decide +kernel)
  · simp at hkk
theorem dRU10_4 (E : DRU10 V w w3 gb gc gf gR nR cR g1 c1 nf cf cc l op clk) (hT : TfV Tf V) : OpW Try.prog opsRU10 [13, 14, 16] (WRU10 w w3 gb gc gf gR nR cR g1 c1 nf cf cc l op clk) Tf 4 oRU10_4 (V 42) := by
  have e6 := E.v6;
  refine .val (by decide) (wanted_no rfl) fun kk hkk hm => ?_
  rw [E.v42]; unfold execOp; go_simp
theorem dRU10_5 (E : DRU10 V w w3 gb gc gf gR nR cR g1 c1 nf cf cc l op clk) (hT : TfV Tf V) : OpW Try.prog opsRU10 [13, 14, 16] (WRU10 w w3 gb gc gf gR nR cR g1 c1 nf cf cc l op clk) Tf 5 oRU10_5 (V 43) := by
  have e42 := E.v42;
  refine .val (by decide) (wanted_no rfl) fun kk hkk hm => ?_
  rw [E.v43]; have hne : nf ≠ 0 := by have := E.hnf; omega
  unfold execOp; go_simp
theorem dRU10_6 (E : DRU10 V w w3 gb gc gf gR nR cR g1 c1 nf cf cc l op clk) (hT : TfV Tf V) : OpW Try.prog opsRU10 [13, 14, 16] (WRU10 w w3 gb gc gf gR nR cR g1 c1 nf cf cc l op clk) Tf 6 oRU10_6 (V 44) := by
  have e43 := E.v43;
  refine .val (by decide) (wanted_no rfl) fun kk hkk hm => ?_
  rw [E.v44]; rcases kk with _ | _ | _ | _ | kk
  · show (execOp _ _).run _ (w.drew) = Result.ok _ (w.drew); have hh : w.drew.cell? _ = _ := E.hf; unfold execOp; go_simp
  · exact absurd hm (by decide +kernel)
  · exact absurd hm (by decide +kernel)
  · exact absurd hm (by decide +kernel)
  · simp at hkk
theorem dRU10_7 (E : DRU10 V w w3 gb gc gf gR nR cR g1 c1 nf cf cc l op clk) (hT : TfV Tf V) : OpW Try.prog opsRU10 [13, 14, 16] (WRU10 w w3 gb gc gf gR nR cR g1 c1 nf cf cc l op clk) Tf 7 oRU10_7 (V 45) := by
  have e1 := E.v1;
  refine .val (by decide) (wanted_no rfl) fun kk hkk hm => ?_
  rw [E.v45]; unfold execOp; go_simp
theorem dRU10_8 (E : DRU10 V w w3 gb gc gf gR nR cR g1 c1 nf cf cc l op clk) (hT : TfV Tf V) : OpW Try.prog opsRU10 [13, 14, 16] (WRU10 w w3 gb gc gf gR nR cR g1 c1 nf cf cc l op clk) Tf 8 oRU10_8 (V 46) := by
  have e2 := E.v2;
  refine .val (by decide) (wanted_no rfl) fun kk hkk hm => ?_
  rw [E.v46]; unfold execOp; go_simp
theorem dRU10_9 (E : DRU10 V w w3 gb gc gf gR nR cR g1 c1 nf cf cc l op clk) (hT : TfV Tf V) : OpW Try.prog opsRU10 [13, 14, 16] (WRU10 w w3 gb gc gf gR nR cR g1 c1 nf cf cc l op clk) Tf 9 oRU10_9 (V 47) := by
  have e46 := E.v46;
  refine .val (by decide) (wanted_no rfl) fun kk hkk hm => ?_
  rw [E.v47]; rcases kk with _ | _ | _ | _ | kk
  · show (execOp _ _).run _ (w.drew) = Result.ok _ (w.drew); have hh : w.drew.cell? _ = _ := E.h3; unfold execOp; go_simp
  · exact absurd hm (by decide +kernel)
  · exact absurd hm (by decide +kernel)
  · exact absurd hm (by decide +kernel)
  · simp at hkk
theorem dRU10_10 (E : DRU10 V w w3 gb gc gf gR nR cR g1 c1 nf cf cc l op clk) (hT : TfV Tf V) : OpW Try.prog opsRU10 [13, 14, 16] (WRU10 w w3 gb gc gf gR nR cR g1 c1 nf cf cc l op clk) Tf 10 oRU10_10 (V 48) := by
  have e2 := E.v2;
  refine .val (by decide) (wanted_no rfl) fun kk hkk hm => ?_
  rw [E.v48]; unfold execOp; go_simp
theorem dRU10_11 (E : DRU10 V w w3 gb gc gf gR nR cR g1 c1 nf cf cc l op clk) (hT : TfV Tf V) : OpW Try.prog opsRU10 [13, 14, 16] (WRU10 w w3 gb gc gf gR nR cR g1 c1 nf cf cc l op clk) Tf 11 oRU10_11 (V 49) := by
  have e48 := E.v48;
  refine .val (by decide) (wanted_no rfl) fun kk hkk hm => ?_
  rw [E.v49]; rcases kk with _ | _ | _ | _ | kk
  · show (execOp _ _).run _ (w.drew) = Result.ok _ (w.drew); have hh : w.drew.cell? _ = _ := E.h3; unfold execOp; go_simp
  · exact absurd hm (by decide +kernel)
  · exact absurd hm (by decide +kernel)
  · exact absurd hm (by decide +kernel)
  · simp at hkk
theorem dRU10_12 (E : DRU10 V w w3 gb gc gf gR nR cR g1 c1 nf cf cc l op clk) (hT : TfV Tf V) : OpW Try.prog opsRU10 [13, 14, 16] (WRU10 w w3 gb gc gf gR nR cR g1 c1 nf cf cc l op clk) Tf 12 oRU10_12 (V 50) := by
  have e41 := E.v41; have e44 := E.v44; have e45 := E.v45; have e47 := E.v47; have e49 := E.v49;
  refine .val (by decide) (wanted_no rfl) fun kk hkk hm => ?_
  rw [E.v50]; unfold execOp; go_simp; rfl
theorem dRU10_13 (E : DRU10 V w w3 gb gc gf gR nR cR g1 c1 nf cf cc l op clk) (hT : TfV Tf V) : OpW Try.prog opsRU10 [13, 14, 16] (WRU10 w w3 gb gc gf gR nR cR g1 c1 nf cf cc l op clk) Tf 13 oRU10_13 (V 51) := by
  have e50 := E.v50;
  refine .act 0 rfl (wanted_no rfl) ?_
  rw [E.v51]; show (execOp _ _).run _ (w.drew) = Result.ok _ ((w.alloc (.cells #[.int .i64 cc, .int .i64 l, .int .i64 op, .int .i64 clk, .int .i64 clk, .int .i64 (-1), .string openB] 50)).drew); unfold execOp; go_simp
theorem dRU10_14 (E : DRU10 V w w3 gb gc gf gR nR cR g1 c1 nf cf cc l op clk) (hT : TfV Tf V) : OpW Try.prog opsRU10 [13, 14, 16] (WRU10 w w3 gb gc gf gR nR cR g1 c1 nf cf cc l op clk) Tf 14 oRU10_14 (V 52) := by
  have e39 := E.v39; have e51 := E.v51;
  refine .act 1 rfl (wanted_no rfl) ?_
  rw [E.v52]; exact exec_app rfl (evT hT E.v39) (evT hT E.v51) E.hap
theorem dRU10_15 (E : DRU10 V w w3 gb gc gf gR nR cR g1 c1 nf cf cc l op clk) (hT : TfV Tf V) : OpW Try.prog opsRU10 [13, 14, 16] (WRU10 w w3 gb gc gf gR nR cR g1 c1 nf cf cc l op clk) Tf 15 oRU10_15 (V 53) := by
  have e2 := E.v2;
  refine .val (by decide) (wanted_no rfl) fun kk hkk hm => ?_
  rw [E.v53]; unfold execOp; go_simp
theorem dRU10_16 (E : DRU10 V w w3 gb gc gf gR nR cR g1 c1 nf cf cc l op clk) (hT : TfV Tf V) : OpW Try.prog opsRU10 [13, 14, 16] (WRU10 w w3 gb gc gf gR nR cR g1 c1 nf cf cc l op clk) Tf 16 oRU10_16 (undef) := by
  have e52 := E.v52; have e53 := E.v53;
  refine .skp 2 rfl (wanted_no rfl) rfl ?_
  have hs := E.hst; have hf := E.hfz; show (execOp _ _).run _ (w3) = Result.ok _ (w3.setCell ⟨gb, 4, none⟩ (.slice (some ⟨g1, 0, none⟩) (nR + 1) c1)); unfold execOp; go_simp
theorem opsRU10_list : opsRU10.toList = [oRU10_0, oRU10_1, oRU10_2, oRU10_3, oRU10_4, oRU10_5, oRU10_6, oRU10_7, oRU10_8, oRU10_9, oRU10_10, oRU10_11, oRU10_12, oRU10_13, oRU10_14, oRU10_15, oRU10_16] := rfl
theorem dRU10_all (E : DRU10 V w w3 gb gc gf gR nR cR g1 c1 nf cf cc l op clk) (hT : TfV Tf V) : ∀ (i : Nat) (o : Oper), opsRU10[i]? = some o → OpW Try.prog opsRU10 [13, 14, 16] (WRU10 w w3 gb gc gf gR nR cR g1 c1 nf cf cc l op clk) Tf i o (valV V o) :=
  allL_ops opsRU10_list ⟨dRU10_0 E hT, dRU10_1 E hT, dRU10_2 E hT, dRU10_3 E hT, dRU10_4 E hT, dRU10_5 E hT, dRU10_6 E hT, dRU10_7 E hT, dRU10_8 E hT, dRU10_9 E hT, dRU10_10 E hT, dRU10_11 E hT, dRU10_12 E hT, dRU10_13 E hT, dRU10_14 E hT, dRU10_15 E hT, dRU10_16 E hT, trivial⟩
end
theorem opsRU10_ok : ordOk opsRU10 = true := by kernel_rfl
theorem opsRU10_ch : chainOk opsRU10 [13, 14, 16] = true := by kernel_rfl
theorem opsRU10_dst : opsRU10.toList.map (·.dst) = [some 38, some 39, some 40, some 41, some 42, some 43, some 44, some 45, some 46, some 47, some 48, some 49, some 50, some 51, some 52, some 53, none] := by rw [opsRU10_list]; rfl
def fRU10 (w w3 : World) (gb gc gf gR nR cR g1 c1 nf cf : Nat) (cc l op clk : Int) (i : Nat) : Value := ([.pointer (some ⟨gb, 4, none⟩), .slice (some ⟨gR, 0, none⟩) nR cR, .pointer (some ⟨gc, 0, none⟩), .int .i64 (cc), .slice (some ⟨gf, 0, none⟩) nf cf, .pointer (some ⟨gf, 0, none⟩), .int .i64 (l), .int .i64 (op), .pointer (some ⟨gb, 3, none⟩), .int .i64 (clk), .pointer (some ⟨gb, 3, none⟩), .int .i64 (clk), .agg #[.int .i64 cc, .int .i64 l, .int .i64 op, .int .i64 clk, .int .i64 clk, .int .i64 (-1), .string openB], .slice (some ⟨w.heap.size, 0, none⟩) 1 1, .slice (some ⟨g1, 0, none⟩) (nR + 1) c1, .pointer (some ⟨gb, 4, none⟩), undef] : List Value).getD i undef
theorem wp_RU10 {Q : Exit → Go.Act → World → Prop} {d : List Deferred} {t0 : Array Value} (w w3 : World) (gb gc gf gR nR cR g1 c1 nf cf : Nat) (cc l op clk : Int) (hz : t0.size = 59) (t1 : t0.getD 1 undef = .int .i64 (op)) (t2 : t0.getD 2 undef = .pointer (some ⟨gb, 0, none⟩)) (t6 : t0.getD 6 undef = .slice (some ⟨gf, 0, none⟩) nf cf) (t7 : t0.getD 7 undef = .pointer (some ⟨gc, 0, none⟩)) (h3 : w.cell? ⟨gb, 3, none⟩ = some (.int .i64 clk)) (h4 : w.cell? ⟨gb, 4, none⟩ = some (.slice (some ⟨gR, 0, none⟩) nR cR)) (hq : w.cell? ⟨gc, 0, none⟩ = some (.int .i64 cc)) (hf : w.cell? ⟨gf, 0, none⟩ = some (.int .i64 l)) (hnf : 0 < nf) (hap : (Builtin.append_ #[25, 25] 25 #[.slice (some ⟨gR, 0, none⟩) nR cR, .slice (some ⟨w.heap.size, 0, none⟩) 1 1]).run Try.prog ((w.alloc (.cells #[.int .i64 cc, .int .i64 l, .int .i64 op, .int .i64 clk, .int .i64 clk, .int .i64 (-1), .string openB] 50)).drew) = .ok (.slice (some ⟨g1, 0, none⟩) (nR + 1) c1) w3) (hst : w3.cell? ⟨gb, 4, none⟩ = some (.slice (some ⟨gR, 0, none⟩) nR cR)) (hfz : w3.frozen? ⟨gb, 4, none⟩ = false) (h0 : WRU10 w w3 gb gc gf gR nR cR g1 c1 nf cf cc l op clk 0 = w.drew) (hk : Q .normal ⟨fillT opsRU10 (fRU10 w w3 gb gc gf gR nR cR g1 c1 nf cf cc l op clk) t0, d⟩ (w3.setCell ⟨gb, 4, none⟩ (.slice (some ⟨g1, 0, none⟩) (nR + 1) c1))) :
    (Go.Code.region 10 opsRU10 true).wp Try.prog Q ⟨t0, d⟩ w := by
  refine wp_drawnDV (ws := [13, 14, 16]) (Wd := WRU10 w w3 gb gc gf gR nR cR g1 c1 nf cf cc l op clk) (vals := fRU10 w w3 gb gc gf gR nR cR g1 c1 nf cf cc l op clk) Try.checked.mixed opsRU10_ok (by decide) opsRU10_ch h0 (by rw [hz]; exact isDst_lt (by kernel_rfl)) (fun V hU hV => ?_) hk
  have E : DRU10 V w w3 gb gc gf gR nR cR g1 c1 nf cf cc l op clk := ⟨(hV 1 (by kernel_rfl)).trans t1, (hV 2 (by kernel_rfl)).trans t2, (hV 6 (by kernel_rfl)).trans t6, (hV 7 (by kernel_rfl)).trans t7, hU 0 _ 38 opsRU10_0 rfl, hU 1 _ 39 opsRU10_1 rfl, hU 2 _ 40 opsRU10_2 rfl, hU 3 _ 41 opsRU10_3 rfl, hU 4 _ 42 opsRU10_4 rfl, hU 5 _ 43 opsRU10_5 rfl, hU 6 _ 44 opsRU10_6 rfl, hU 7 _ 45 opsRU10_7 rfl, hU 8 _ 46 opsRU10_8 rfl, hU 9 _ 47 opsRU10_9 rfl, hU 10 _ 48 opsRU10_10 rfl, hU 11 _ 49 opsRU10_11 rfl, hU 12 _ 50 opsRU10_12 rfl, hU 13 _ 51 opsRU10_13 rfl, hU 14 _ 52 opsRU10_14 rfl, hU 15 _ 53 opsRU10_15 rfl, h3, h4, hq, hf, hnf, hap, hst, hfz⟩
  exact fun Tf hT i o e => dRU10_all E hT i o e
noncomputable def bodyWT : Go.Code := (Try.f99.body).getD .skip
noncomputable def rWT10 : Go.Code := match bodyWT with | .seq _ (.seq _ (.seq _ (.seq _ (.seq (.seq _ (.block _ (.loop (.seq _ (.seq (.block _ (.seq _ (.seq _ (.cond _ (.seq _ (.seq (a) _)) _)))) _))))) _)))) => a | _ => .skip
noncomputable def opsWT10 : Array Oper := match rWT10 with | .region _ ops _ => ops | _ => #[]
abbrev oWT10_0 : Oper := { dst := some 51, op := Go.Op.fieldAddr 121 (Go.Operand.tmp 2) 4, type := 0, pos := "l6_office.go:213", after := #[], guard := none }
theorem opsWT10_0 : opsWT10[0]? = some oWT10_0 := rfl
abbrev oWT10_1 : Oper := { dst := some 52, op := Go.Op.load 118 (Go.Operand.tmp 51), type := 118, pos := "l6_office.go:213", after := #[{ on := 0, ground := Go.Ground.data }], guard := none }
theorem opsWT10_1 : opsWT10[1]? = some oWT10_1 := rfl
abbrev oWT10_2 : Oper := { dst := some 53, op := Go.Op.move (Go.Operand.tmp 7), type := 118, pos := "l6_office.go:213", after := #[], guard := none }
theorem opsWT10_2 : opsWT10[2]? = some oWT10_2 := rfl
abbrev oWT10_3 : Oper := { dst := some 54, op := Go.Op.move (Go.Operand.tmp 8), type := 3, pos := "l6_office.go:213", after := #[], guard := none }
theorem opsWT10_3 : opsWT10[3]? = some oWT10_3 := rfl
abbrev oWT10_4 : Oper := { dst := some 55, op := Go.Op.indexAddr 118 (Go.Operand.tmp 53) (Go.Operand.tmp 54), type := 0, pos := "l6_office.go:213", after := #[{ on := 2, ground := Go.Ground.data }, { on := 3, ground := Go.Ground.data }], guard := none }
theorem opsWT10_4 : opsWT10[4]? = some oWT10_4 := rfl
abbrev oWT10_5 : Oper := { dst := some 56, op := Go.Op.load 140 (Go.Operand.tmp 55), type := 140, pos := "l6_office.go:213", after := #[{ on := 4, ground := Go.Ground.data }], guard := none }
theorem opsWT10_5 : opsWT10[5]? = some oWT10_5 := rfl
abbrev oWT10_6 : Oper := { dst := some 57, op := Go.Op.buildSlice 118 1 #[(0, Go.Operand.tmp 56)], type := 118, pos := "l6_office.go:213", after := #[{ on := 5, ground := Go.Ground.data }], guard := none }
theorem opsWT10_6 : opsWT10[6]? = some oWT10_6 := rfl
abbrev oWT10_7 : Oper := { dst := some 58, op := Go.Op.call { callee := Go.Callee.builtin Go.Builtin.append, args := #[Go.Operand.tmp 52, Go.Operand.tmp 57], argTypes := #[118, 118] }, type := 118, pos := "l6_office.go:213", after := #[{ on := 1, ground := Go.Ground.data }, { on := 6, ground := Go.Ground.data }], guard := none }
theorem opsWT10_7 : opsWT10[7]? = some oWT10_7 := rfl
abbrev oWT10_8 : Oper := { dst := some 59, op := Go.Op.fieldAddr 121 (Go.Operand.tmp 2) 4, type := 0, pos := "l6_office.go:213", after := #[{ on := 0, ground := Go.Ground.phase }, { on := 1, ground := Go.Ground.phase }, { on := 2, ground := Go.Ground.phase }, { on := 3, ground := Go.Ground.phase }, { on := 4, ground := Go.Ground.phase }, { on := 5, ground := Go.Ground.phase }, { on := 6, ground := Go.Ground.phase }, { on := 7, ground := Go.Ground.phase }], guard := none }
theorem opsWT10_8 : opsWT10[8]? = some oWT10_8 := rfl
abbrev oWT10_9 : Oper := { dst := none, op := Go.Op.store 118 (Go.Operand.tmp 59) (Go.Operand.tmp 58), type := 0, pos := "l6_office.go:213", after := #[{ on := 8, ground := Go.Ground.data }, { on := 7, ground := Go.Ground.data }, { on := 7, ground := Go.Ground.chain }, { on := 0, ground := Go.Ground.phase }, { on := 1, ground := Go.Ground.phase }, { on := 2, ground := Go.Ground.phase }, { on := 3, ground := Go.Ground.phase }, { on := 4, ground := Go.Ground.phase }, { on := 5, ground := Go.Ground.phase }, { on := 6, ground := Go.Ground.phase }, { on := 7, ground := Go.Ground.phase }], guard := none }
structure DWT10 (V : Nat → Value) (w w3 : World) (gb gW nW cW gB nB cB g1 c1 k : Nat) (xc xp : Int) : Prop where
  v2 : V 2 = .pointer (some ⟨gb, 0, none⟩)
  v7 : V 7 = .slice (some ⟨gW, 0, none⟩) nW cW
  v8 : V 8 = .int .i64 (k : Int)
  v51 : V 51 = .pointer (some ⟨gb, 6, none⟩)
  v52 : V 52 = .slice (some ⟨gB, 0, none⟩) nB cB
  v53 : V 53 = .slice (some ⟨gW, 0, none⟩) nW cW
  v54 : V 54 = .int .i64 (k : Int)
  v55 : V 55 = .pointer (some ⟨gW, k * 2, none⟩)
  v56 : V 56 = .agg #[.int .i64 xc, .int .i64 xp]
  v57 : V 57 = .slice (some ⟨w.heap.size, 0, none⟩) 1 1
  v58 : V 58 = .slice (some ⟨g1, 0, none⟩) (nB + 1) c1
  v59 : V 59 = .pointer (some ⟨gb, 6, none⟩)
  h6 : w.cell? ⟨gb, 6, none⟩ = some (.slice (some ⟨gB, 0, none⟩) nB cB)
  hx0 : w.cell? ⟨gW, k * 2, none⟩ = some (.int .i64 xc)
  hx1 : w.cell? ⟨gW, k * 2 + 1, none⟩ = some (.int .i64 xp)
  hkn : k < nW
  hap : (Builtin.append_ #[118, 118] 118 #[.slice (some ⟨gB, 0, none⟩) nB cB, .slice (some ⟨w.heap.size, 0, none⟩) 1 1]).run Try.prog ((w.alloc (.cells #[.int .i64 xc, .int .i64 xp] 140)).drew) = .ok (.slice (some ⟨g1, 0, none⟩) (nB + 1) c1) w3
  hst : w3.cell? ⟨gb, 6, none⟩ = some (.slice (some ⟨gB, 0, none⟩) nB cB)
  hfz : w3.frozen? ⟨gb, 6, none⟩ = false
def WWT10 (w w3 : World) (gb gW nW cW gB nB cB g1 c1 k : Nat) (xc xp : Int) : Nat → World
  | 0 => w.drew
  | 1 => (w.alloc (.cells #[.int .i64 xc, .int .i64 xp] 140)).drew
  | 2 => w3
  | _ => w3.setCell ⟨gb, 6, none⟩ (.slice (some ⟨g1, 0, none⟩) (nB + 1) c1)
section
variable {V : Nat → Value} {Tf : Array Value} {w w3 : World} {gb gW nW cW gB nB cB g1 c1 k : Nat} {xc xp : Int}
theorem dWT10_0 (E : DWT10 V w w3 gb gW nW cW gB nB cB g1 c1 k xc xp) (hT : TfV Tf V) : OpW Try.prog opsWT10 [6, 7, 9] (WWT10 w w3 gb gW nW cW gB nB cB g1 c1 k xc xp) Tf 0 oWT10_0 (V 51) := by
  have e2 := E.v2;
  refine .val (by decide) (wanted_no rfl) fun kk hkk hm => ?_
  rw [E.v51]; unfold execOp; go_simp
theorem dWT10_1 (E : DWT10 V w w3 gb gW nW cW gB nB cB g1 c1 k xc xp) (hT : TfV Tf V) : OpW Try.prog opsWT10 [6, 7, 9] (WWT10 w w3 gb gW nW cW gB nB cB g1 c1 k xc xp) Tf 1 oWT10_1 (V 52) := by
  have e51 := E.v51;
  refine .val (by decide) (wanted_no rfl) fun kk hkk hm => ?_
  rw [E.v52]; rcases kk with _ | _ | _ | _ | kk
  · show (execOp _ _).run _ (w.drew) = Result.ok _ (w.drew); have hh : w.drew.cell? _ = _ := E.h6; unfold execOp; go_simp
  · show (execOp _ _).run _ ((w.alloc (.cells #[.int .i64 xc, .int .i64 xp] 140)).drew) = Result.ok _ ((w.alloc (.cells #[.int .i64 xc, .int .i64 xp] 140)).drew); have hh := cell_alloc E.h6 (.cells #[.int .i64 xc, .int .i64 xp] 140); unfold execOp; go_simp
  · exact absurd hm (by decide +kernel)
  · exact absurd hm (by decide +kernel)
  · simp at hkk
theorem dWT10_2 (E : DWT10 V w w3 gb gW nW cW gB nB cB g1 c1 k xc xp) (hT : TfV Tf V) : OpW Try.prog opsWT10 [6, 7, 9] (WWT10 w w3 gb gW nW cW gB nB cB g1 c1 k xc xp) Tf 2 oWT10_2 (V 53) := by
  have e7 := E.v7;
  refine .val (by decide) (wanted_no rfl) fun kk hkk hm => ?_
  rw [E.v53]; unfold execOp; go_simp
theorem dWT10_3 (E : DWT10 V w w3 gb gW nW cW gB nB cB g1 c1 k xc xp) (hT : TfV Tf V) : OpW Try.prog opsWT10 [6, 7, 9] (WWT10 w w3 gb gW nW cW gB nB cB g1 c1 k xc xp) Tf 3 oWT10_3 (V 54) := by
  have e8 := E.v8;
  refine .val (by decide) (wanted_no rfl) fun kk hkk hm => ?_
  rw [E.v54]; unfold execOp; go_simp
theorem dWT10_4 (E : DWT10 V w w3 gb gW nW cW gB nB cB g1 c1 k xc xp) (hT : TfV Tf V) : OpW Try.prog opsWT10 [6, 7, 9] (WWT10 w w3 gb gW nW cW gB nB cB g1 c1 k xc xp) Tf 4 oWT10_4 (V 55) := by
  have e53 := E.v53; have e54 := E.v54;
  refine .val (by decide) (wanted_no rfl) fun kk hkk hm => ?_
  rw [E.v55]; have i0 : (0 : Int) ≤ (k : Int) := by omega
  have i1 : (k : Int) < (nW : Int) := by have := E.hkn; omega
  unfold execOp; go_simp
theorem dWT10_5 (E : DWT10 V w w3 gb gW nW cW gB nB cB g1 c1 k xc xp) (hT : TfV Tf V) : OpW Try.prog opsWT10 [6, 7, 9] (WWT10 w w3 gb gW nW cW gB nB cB g1 c1 k xc xp) Tf 5 oWT10_5 (V 56) := by
  have e55 := E.v55;
  refine .val (by decide) (wanted_no rfl) fun kk hkk hm => ?_
  rw [E.v56]; rcases kk with _ | _ | _ | _ | kk
  · show (execOp _ _).run _ (w.drew) = Result.ok _ (w.drew); have hh : w.drew.cell? _ = _ := E.hx0; have hh2 : w.drew.cell? _ = _ := E.hx1; unfold execOp; go_simp
  · exact absurd hm (by decide +kernel)
  · exact absurd hm (by decide +kernel)
  · exact absurd hm (by decide +kernel)
  · simp at hkk
theorem dWT10_6 (E : DWT10 V w w3 gb gW nW cW gB nB cB g1 c1 k xc xp) (hT : TfV Tf V) : OpW Try.prog opsWT10 [6, 7, 9] (WWT10 w w3 gb gW nW cW gB nB cB g1 c1 k xc xp) Tf 6 oWT10_6 (V 57) := by
  have e56 := E.v56;
  refine .act 0 rfl (wanted_no rfl) ?_
  rw [E.v57]; show (execOp _ _).run _ (w.drew) = Result.ok _ ((w.alloc (.cells #[.int .i64 xc, .int .i64 xp] 140)).drew); unfold execOp; go_simp
theorem dWT10_7 (E : DWT10 V w w3 gb gW nW cW gB nB cB g1 c1 k xc xp) (hT : TfV Tf V) : OpW Try.prog opsWT10 [6, 7, 9] (WWT10 w w3 gb gW nW cW gB nB cB g1 c1 k xc xp) Tf 7 oWT10_7 (V 58) := by
  have e52 := E.v52; have e57 := E.v57;
  refine .act 1 rfl (wanted_no rfl) ?_
  rw [E.v58]; exact exec_app rfl (evT hT E.v52) (evT hT E.v57) E.hap
theorem dWT10_8 (E : DWT10 V w w3 gb gW nW cW gB nB cB g1 c1 k xc xp) (hT : TfV Tf V) : OpW Try.prog opsWT10 [6, 7, 9] (WWT10 w w3 gb gW nW cW gB nB cB g1 c1 k xc xp) Tf 8 oWT10_8 (V 59) := by
  have e2 := E.v2;
  refine .val (by decide) (wanted_no rfl) fun kk hkk hm => ?_
  rw [E.v59]; unfold execOp; go_simp
theorem dWT10_9 (E : DWT10 V w w3 gb gW nW cW gB nB cB g1 c1 k xc xp) (hT : TfV Tf V) : OpW Try.prog opsWT10 [6, 7, 9] (WWT10 w w3 gb gW nW cW gB nB cB g1 c1 k xc xp) Tf 9 oWT10_9 (undef) := by
  have e58 := E.v58; have e59 := E.v59;
  refine .skp 2 rfl (wanted_no rfl) rfl ?_
  have hs := E.hst; have hf := E.hfz; show (execOp _ _).run _ (w3) = Result.ok _ (w3.setCell ⟨gb, 6, none⟩ (.slice (some ⟨g1, 0, none⟩) (nB + 1) c1)); unfold execOp; go_simp
theorem opsWT10_list : opsWT10.toList = [oWT10_0, oWT10_1, oWT10_2, oWT10_3, oWT10_4, oWT10_5, oWT10_6, oWT10_7, oWT10_8, oWT10_9] := rfl
theorem dWT10_all (E : DWT10 V w w3 gb gW nW cW gB nB cB g1 c1 k xc xp) (hT : TfV Tf V) : ∀ (i : Nat) (o : Oper), opsWT10[i]? = some o → OpW Try.prog opsWT10 [6, 7, 9] (WWT10 w w3 gb gW nW cW gB nB cB g1 c1 k xc xp) Tf i o (valV V o) :=
  allL_ops opsWT10_list ⟨dWT10_0 E hT, dWT10_1 E hT, dWT10_2 E hT, dWT10_3 E hT, dWT10_4 E hT, dWT10_5 E hT, dWT10_6 E hT, dWT10_7 E hT, dWT10_8 E hT, dWT10_9 E hT, trivial⟩
end
theorem opsWT10_ok : ordOk opsWT10 = true := by kernel_rfl
theorem opsWT10_ch : chainOk opsWT10 [6, 7, 9] = true := by kernel_rfl
theorem opsWT10_dst : opsWT10.toList.map (·.dst) = [some 51, some 52, some 53, some 54, some 55, some 56, some 57, some 58, some 59, none] := by rw [opsWT10_list]; rfl
def fWT10 (w w3 : World) (gb gW nW cW gB nB cB g1 c1 k : Nat) (xc xp : Int) (i : Nat) : Value := ([.pointer (some ⟨gb, 6, none⟩), .slice (some ⟨gB, 0, none⟩) nB cB, .slice (some ⟨gW, 0, none⟩) nW cW, .int .i64 (k : Int), .pointer (some ⟨gW, k * 2, none⟩), .agg #[.int .i64 xc, .int .i64 xp], .slice (some ⟨w.heap.size, 0, none⟩) 1 1, .slice (some ⟨g1, 0, none⟩) (nB + 1) c1, .pointer (some ⟨gb, 6, none⟩), undef] : List Value).getD i undef
theorem wp_WT10 {Q : Exit → Go.Act → World → Prop} {d : List Deferred} {t0 : Array Value} (w w3 : World) (gb gW nW cW gB nB cB g1 c1 k : Nat) (xc xp : Int) (hz : t0.size = 71) (t2 : t0.getD 2 undef = .pointer (some ⟨gb, 0, none⟩)) (t7 : t0.getD 7 undef = .slice (some ⟨gW, 0, none⟩) nW cW) (t8 : t0.getD 8 undef = .int .i64 (k : Int)) (h6 : w.cell? ⟨gb, 6, none⟩ = some (.slice (some ⟨gB, 0, none⟩) nB cB)) (hx0 : w.cell? ⟨gW, k * 2, none⟩ = some (.int .i64 xc)) (hx1 : w.cell? ⟨gW, k * 2 + 1, none⟩ = some (.int .i64 xp)) (hkn : k < nW) (hap : (Builtin.append_ #[118, 118] 118 #[.slice (some ⟨gB, 0, none⟩) nB cB, .slice (some ⟨w.heap.size, 0, none⟩) 1 1]).run Try.prog ((w.alloc (.cells #[.int .i64 xc, .int .i64 xp] 140)).drew) = .ok (.slice (some ⟨g1, 0, none⟩) (nB + 1) c1) w3) (hst : w3.cell? ⟨gb, 6, none⟩ = some (.slice (some ⟨gB, 0, none⟩) nB cB)) (hfz : w3.frozen? ⟨gb, 6, none⟩ = false) (h0 : WWT10 w w3 gb gW nW cW gB nB cB g1 c1 k xc xp 0 = w.drew) (hk : Q .normal ⟨fillT opsWT10 (fWT10 w w3 gb gW nW cW gB nB cB g1 c1 k xc xp) t0, d⟩ (w3.setCell ⟨gb, 6, none⟩ (.slice (some ⟨g1, 0, none⟩) (nB + 1) c1))) :
    (Go.Code.region 10 opsWT10 true).wp Try.prog Q ⟨t0, d⟩ w := by
  refine wp_drawnDV (ws := [6, 7, 9]) (Wd := WWT10 w w3 gb gW nW cW gB nB cB g1 c1 k xc xp) (vals := fWT10 w w3 gb gW nW cW gB nB cB g1 c1 k xc xp) Try.checked.mixed opsWT10_ok (by decide) opsWT10_ch h0 (by rw [hz]; exact isDst_lt (by kernel_rfl)) (fun V hU hV => ?_) hk
  have E : DWT10 V w w3 gb gW nW cW gB nB cB g1 c1 k xc xp := ⟨(hV 2 (by kernel_rfl)).trans t2, (hV 7 (by kernel_rfl)).trans t7, (hV 8 (by kernel_rfl)).trans t8, hU 0 _ 51 opsWT10_0 rfl, hU 1 _ 52 opsWT10_1 rfl, hU 2 _ 53 opsWT10_2 rfl, hU 3 _ 54 opsWT10_3 rfl, hU 4 _ 55 opsWT10_4 rfl, hU 5 _ 56 opsWT10_5 rfl, hU 6 _ 57 opsWT10_6 rfl, hU 7 _ 58 opsWT10_7 rfl, hU 8 _ 59 opsWT10_8 rfl, h6, hx0, hx1, hkn, hap, hst, hfz⟩
  exact fun Tf hT i o e => dWT10_all E hT i o e
end Go.Proofs.Ytjcpjijihajopaa
namespace Go.Proofs.Ytjcpjijihajopaa
open Go.RowKit
set_option linter.unusedVariables false
def StepSays (lo : Nat) (v : RoomV) (w : World) (bt : RoomD × List UInt8) (x : Ending) (w' : World) : Prop :=
  ∃ v', x = .returned (.tuple #[.agg (roomA v' bt.1), .string ⟨bt.2.toArray⟩]) ∧ RoomOk w' lo v' bt.1 ∧ Turn v w w' ∧ Moved w.heap.size v v'
structure RoomSmall (r : RoomD) : Prop where
  off : offB r.o = true
  nr : r.recs.length ≤ 1000
  nw : r.wait.length ≤ 1000
  nb : r.back.length ≤ 5000
  nl : r.log.length ≤ 1000
  clk : 0 ≤ r.clk ∧ r.clk ≤ 100000
abbrev callO (c : CallD) : Obj := .cells #[.int .i64 c.c, .int .i64 c.p] 140
theorem posI_some {o : Option Nat} {i : Nat} (h : o = some i) : posI o = (i : Int) := by rw [h]; rfl
theorem posI_none {o : Option Nat} (h : o = none) : posI o = -1 := by rw [h]; rfl
theorem freeF_mem {o : OffD} {rs : List RecD} {l : Int} (h : l ∈ freeF o rs) : 1 ≤ l ∧ l ≤ o.ln := by
  unfold freeF freeTo at h
  rw [List.mem_filter, List.mem_map] at h
  obtain ⟨⟨i, hi, rfl⟩, _⟩ := h
  rw [List.mem_range] at hi
  omega
theorem rings_known {b : RoomD} {c : CallD} (h : (openAt b.recs c.c).isSome = true ∨ (findC6 b.back c.c).isSome = true) : ringsF b c = (b, [107, 110, 111, 119, 110]) := by
  unfold ringsF
  rw [if_pos (by rcases h with h | h <;> simp [h])]
set_option maxHeartbeats 8000000 in
set_option maxRecDepth 20000 in
theorem l6Rings_any (lo : Nat) (v : RoomV) (r : RoomD) (c : CallD) (w : World) (h : RoomOk w lo v r) (hs : RoomSmall r) (hlo : lo ≤ w.heap.size) :
    Calls Try.prog 95 #[.agg (roomA v r), .agg #[.int .i64 c.c, .int .i64 c.p]] w (StepSays lo v w (ringsF r c)) := by
  obtain ⟨gb, hgb⟩ : ∃ g, g = w.heap.size := ⟨_, rfl⟩
  have hl := h.lts
  obtain ⟨O, hO⟩ : ∃ O : Obj, O = .cells (roomA v r) 121 := ⟨_, rfl⟩
  obtain ⟨C, hC⟩ : ∃ C : Obj, C = .cells #[.int .i64 c.c, .int .i64 c.p] 140 := ⟨_, rfl⟩
  obtain ⟨Z, hZ⟩ : ∃ Z : Obj, Z = roomZ := ⟨_, rfl⟩
  have hk0 : (((w.alloc O).alloc C).alloc Z).heap[gb]? = some (roomO v r) := by rw [hO, hgb]; exact blk_alloc (blk_alloc (heap_alloc_new _ _) _) _
  have hk1 : (((w.alloc O).alloc C).alloc Z).heap[gb + 1]? = some (callO c) := by rw [hC, hgb]; exact blk_alloc (heap_new' _ _ (by simp)) _
  have hk2 : (((w.alloc O).alloc C).alloc Z).heap[gb + 2]? = some roomZ := by rw [← hZ]; exact heap_new' _ _ (by rw [hgb]; simp)
  have HR1 := Lib.hid (((h.alloc O).alloc C).alloc Z)
  have HT1 := Lib.hid (Turn.of_below v (below_al (below_al (below_al (Below.refl w.heap.size w) O) C) Z))
  have HZ1 := Lib.hid (show (((w.alloc O).alloc C).alloc Z).heap.size = gb + 3 by rw [hgb]; simp)
  have HK0 := Lib.hid hk0
  have HK1 := Lib.hid hk1
  have HK2 := Lib.hid hk2
  have HO := Lib.hid hO
  have HC := Lib.hid hC
  have HZ := Lib.hid (show Z = .cells #[.int .i64 0, .int .i64 0, .int .i64 0, .int .i64 0, .slice none 0 0, .slice none 0 0, .slice none 0 0, .slice none 0 0] 121 from hZ)
  have HGB := Lib.hid hgb
  have HL := Lib.hid hl
  clear hO hC hZ hgb hk0 hk1 hk2 h hl
  go_enter Try.func95, Try.ntmps95
  go_upto_region 1 with fail
  rw [← HO.out, ← HC.out, ← HZ.out, ← HGB.out]
  obtain ⟨W1, hW1⟩ : ∃ y, y = ((w.alloc O).alloc C).alloc Z := ⟨_, rfl⟩
  rw [← hW1] at HK0 HK1 HK2 HR1 HT1 HZ1 ⊢
  clear hW1
  have k := blk_cell HK0.out
  have k0 := k 0
  have k1 := k 1
  have k2 := k 2
  have k3 := k 3
  have k4 := k 4
  have k5 := k 5
  have k6 := k 6
  have k7 := k 7
  clear k
  have hn1 := hs.nr
  go_upto_region 2 with (go_at_call 100; refine (l6Free_any lo v r W1 HR1.out (by omega) hs.off).mono ?_; rintro x w2 ⟨_, rfl, gf, cf, rfl, hown, b2⟩; have HOF := Lib.hid hown; have HB2 := Lib.hid b2; clear hown b2)
  have HR2 := Lib.hid (HR1.out.below HB2.out)
  have HT2 := Lib.hid (HT1.out.same (Turn.of_below v HB2.out))
  have hkr := (blk_below HB2.out HK0.out).1
  have hkc := (blk_below HB2.out HK1.out).1
  have HKR := Lib.hid (blk_below HB2.out HK2.out).1
  have HKB := Lib.hid hkr
  have HKC := Lib.hid hkc
  have HZ2 := Lib.hid (show gb + 3 ≤ w2.heap.size by have := HB2.out.size; have := HZ1.out; omega)
  have HGF := Lib.hid (HOF.out.lt gf rfl)
  clear k0 k1 k2 k3 k4 k5 k6 k7
  have k := blk_cell hkr
  have k0 := k 0
  have k1 := k 1
  have k2 := k 2
  have k3 := k 3
  have k4 := k 4
  have k5 := k 5
  have k6 := k 6
  have k7 := k 7
  have q := blk_cell hkc
  have q0 := q 0
  have q1 := q 1
  have r0 := blk_frozen' HKR.out
  have z := blk_cell HKR.out
  have z0 := z 0
  have z1 := z 1
  have z2 := z 2
  have z3 := z 3
  have z4 := z 4
  have z5 := z 5
  have z6 := z 6
  have z7 := z 7
  have HSR := Lib.hid HR2.out.slcR
  have HSB := Lib.hid HR2.out.slcB
  have hnb := hs.nb
  clear k q z hkr hkc
  rcases hop : openAt r.recs c.c with _ | i
  · have HOP := Lib.hid (posI_none hop)
    rcases hfi : findC6 r.back c.c with _ | j
    · have HFI := Lib.hid (posI_none hfi)
      have HRA := Lib.hid (show RoomAt w w2 lo gb 3 v v r from ⟨HR2.out, HT2.out, Moved.refl _ _, HGB.out, HKB.out, HZ2.out, by omega, by have := HL.out; have := HGB.out; omega, by have := HL.out; have := HGB.out; omega, by have := HL.out; have := HGB.out; omega, by have := HL.out; have := HGB.out; omega, by rw [HGB.out]; exact hlo⟩)
      rcases hfr : freeF r.o r.recs with _ | ⟨l, fs⟩
      · have HKN := Lib.hid (show ringsF r c = ({ r with back := r.back ++ [c] }, [98, 117, 115, 121]) by unfold ringsF; rw [if_neg (by simp [hop, hfi]), hfr])
        simp only [List.length_nil]
        clear hop hfi hfr
        obtain ⟨i0, hi0, hz0, hz1, hz2⟩ := info_parts info_call6
        have HI := Lib.hid hi0
        clear hi0
        go_upto_region 6 with (first
          | (go_at_call 101; refine (l6Open_any lo w2.heap.size r.recs.length v.cR (some ⟨v.gR, 0, none⟩) r.recs c.c w2 HSR.out (by omega)).mono ?_; rintro x w' ⟨rfl, hww⟩; obtain rfl := hww.symm; rw [HOP.out])
          | (go_at_call 102; refine (l6Find_any lo w2.heap.size r.back.length v.cB (some ⟨v.gB, 0, none⟩) r.back c.c w2 HSB.out (by omega)).mono ?_; rintro x w' ⟨rfl, hww⟩; obtain rfl := hww.symm; rw [HFI.out])
          | (at_builtin; refine wpList_app2 _ rfl (.tmp 30) (.tmp 32) 118 rfl lo 140 i0 (.agg #[.int .i64 0, .int .i64 0]) 2 16 Try.underlying118 HI.out hz0 hz1 hz2 rfl (by decide) v.gB v.cB r.back.length (calls r.back) rfl ((HR2.out.alloc _).bk) ⟨_, 0, none⟩ 1 1 c.cells rfl rfl ?c2 (by intro u hu; simp [CallD.cells] at hu; rcases hu with rfl | rfl <;> rfl) ?c5 ?c6 ?c7 ?_; (case c2 => exact World.news_of_block (cs := c.cells.toArray) (heap_alloc_new _ _)); (case c5 => unfold maxLen; omega); (case c6 => omega); (case c7 => (have := HRA.out.lob; have := HZ2.out; simp; omega)); intro g1 c1 w3 hown1 hgr1 B1 hat1; have HA4 := Lib.hid ((HRA.out.alloc _).appB hgr1 hown1 rfl hat1); have HQ4 := Lib.hid (blk_grown6 hgr1 (blk_alloc HKR.out _) (by have := HRA.out.aB; omega)); have kx := (blk_grown6 hgr1 (blk_alloc HKB.out _) (by have := HRA.out.aB; omega)).1; have kx6 := blk_cell kx 6; have kxf := blk_frozen' kx; clear hown1 hgr1 B1 hat1 kx))
        obtain ⟨W4, hW4⟩ : ∃ y, y = w3.setCell ⟨gb, 6, none⟩ (.slice (some ⟨g1, 0, none⟩) (r.back.length + 1) c1) := ⟨_, rfl⟩
        rw [← hW4] at HA4 ⊢
        have HZ4 := Lib.hid (show W4.heap[gb + 2]? = some roomZ by rw [hW4]; exact (Below.heap_setCell w3 _ _ (gb + 2) (by show gb + 2 ≠ gb; omega)).trans HQ4.out.1)
        clear hW4 kx6 kxf
        obtain ⟨v4, hv4⟩ : ∃ y : RoomV, y = { v with gB := g1, cB := c1 } := ⟨_, rfl⟩
        obtain ⟨r4, hr4⟩ : ∃ y : RoomD, y = { r with back := r.back ++ [c] } := ⟨_, rfl⟩
        rw [← hv4, ← hr4] at HA4
        rw [← hr4] at HKN
        clear hv4 hr4
        have k := blk_cell HA4.out.blk
        have k0 := k 0
        have k1 := k 1
        have k2 := k 2
        have k3 := k 3
        have k4 := k 4
        have k5 := k 5
        have k6 := k 6
        have k7 := k 7
        have HKR := HZ4
        have z := blk_cell HKR.out
        have z0 := z 0
        have z1 := z 1
        have z2 := z 2
        have z3 := z 3
        have z4 := z 4
        have z5 := z 5
        have z6 := z 6
        have z7 := z 7
        have r0 := blk_frozen' HKR.out
        clear k z
        go_wp2_with fail
        have er := blk_cell (set8_blk (a0 := .int .i64 (r4).o.ln) (a1 := .int .i64 (r4).o.op) (a2 := .int .i64 (r4).o.pt) (a3 := .int .i64 (r4).clk) (a4 := (v4).sR (r4)) (a5 := (v4).sW (r4)) (a6 := (v4).sB (r4)) (a7 := (v4).sL (r4)) HKR.out)
        refine bodyPost_ret (v := .tuple #[.agg (roomA (v4) (r4)), .string ⟨([98, 117, 115, 121] : List UInt8).toArray⟩]) ?_ rfl ?_
        · unfold set8 at er
          simp [results, Try.results95, go_sem, er]
        · rw [HKN.out]
          obtain ⟨d1, d2, d3⟩ := HA4.out.done (b := gb + 2) (by omega)
          exact ⟨v4, rfl, d1, d2, d3⟩
      · obtain ⟨nf, hnf⟩ : ∃ n, n = (l :: fs).length := ⟨_, rfl⟩
        have hln := freeTo_len r.recs r.o.ln.toNat
        have ho6 := (offB_parts hs.off).2.1
        have hff : (freeF r.o r.recs).length = nf := by rw [hfr, hnf]
        have hn6 : nf ≤ 6 := by unfold freeF at hff; omega
        have hn0 : 0 < nf := by rw [hnf]; simp
        have hlb := freeF_mem (o := r.o) (rs := r.recs) (l := l) (by rw [hfr]; simp)
        have HFR := Lib.hid (show w2.ownsRow W1.heap.size 3 1 (.slice (some ⟨gf, 0, none⟩) nf cf) nf (ints (l :: fs)) by have := HOF.out; rw [hff, hfr] at this; exact this)
        have hf0 : w2.cell? ⟨gf, 0, none⟩ = some (.int .i64 l) := HFR.out.cellAt 0 (by omega)
        rw [← hnf]
        have HKN := Lib.hid (show ringsF r c = ({ r with recs := r.recs ++ [⟨c.c, l, 0, r.clk, -1, -1, openB⟩], wait := queuedF r.wait c }, [108, 105, 110, 101, 32] ++ numT l) by unfold ringsF; rw [if_neg (by simp [hop, hfi]), hfr])
        have HFB := Lib.hid hlb
        have hfz : ((nf : Int) == 0) = false := by simp; omega
        have i0f : (0 : Int) < (nf : Int) := by omega
        clear hop hfi hfr hnf hln ho6 hff hlb
        go_upto_region 7 with (first
          | (go_at_call 101; refine (l6Open_any lo w2.heap.size r.recs.length v.cR (some ⟨v.gR, 0, none⟩) r.recs c.c w2 HSR.out (by omega)).mono ?_; rintro x w' ⟨rfl, hww⟩; obtain rfl := hww.symm; rw [HOP.out])
          | (go_at_call 102; refine (l6Find_any lo w2.heap.size r.back.length v.cB (some ⟨v.gB, 0, none⟩) r.back c.c w2 HSB.out (by omega)).mono ?_; rintro x w' ⟨rfl, hww⟩; obtain rfl := hww.symm; rw [HFI.out]))
        go_cut [] from 36 to 48 (fun wx => ∃ g1 c1, RoomAt w wx lo gb 3 v { v with gR := g1, cR := c1 } { r with recs := r.recs ++ [⟨c.c, l, 0, r.clk, -1, -1, openB⟩] } ∧ wx.heap[gb + 1]? = some (callO c) ∧ wx.heap[gb + 2]? = some roomZ ∧ wx.ownsRow W1.heap.size 3 1 (.slice (some ⟨gf, 0, none⟩) nf cf) nf (ints (l :: fs)))
        case first =>
          obtain ⟨i0, hi0, hz0, hz1, hz2⟩ := info_parts info_rec
          have HI := Lib.hid hi0
          clear hi0
          have hgf := HGF.out
          have hz13 : gb + 3 ≤ W1.heap.size := by have := HZ1.out; omega
          have hvR : v.gR < gb := by have := HL.out; have := HGB.out; omega
          have kB : ∀ o : Obj, (w2.alloc o).cell? ⟨gb, 4, none⟩ = some (v.sR r) := fun o => cell_alloc k4 o
          have hgbz : gb < w2.heap.size := by have := HZ2.out; omega
          have S0 : w2.cell? ⟨gb, 3, none⟩ = some (.int .i64 r.clk) ∧ w2.cell? ⟨gb + 1, 0, none⟩ = some (.int .i64 c.c) ∧ w2.cell? ⟨gf, 0, none⟩ = some (.int .i64 l) := ⟨k3, q0, hf0⟩
          have HS0 := Lib.hid S0
          have hfg : gf ≠ gb := by omega
          clear S0
          obtain ⟨g1, c1, w3, hap, hown1, hgr1, B1, hat1⟩ := run_app2 (P := Try.prog) (w2.alloc (.cells #[.int .i64 c.c, .int .i64 l, .int .i64 0, .int .i64 r.clk, .int .i64 (-1), .int .i64 (-1), .string openB] 50)).drew 25 25 lo 50 i0 (.agg #[.int .i64 0, .int .i64 0, .int .i64 0, .int .i64 0, .int .i64 0, .int .i64 0, .string ⟨#[]⟩]) 7 64 Try.underlying25 HI.out hz0 hz1 hz2 rfl (by decide) v.gR v.cR r.recs.length (recs r.recs) (row_keep HR2.out.rc (fun b hb => Below.heap_alloc _ _ b hb)) ⟨w2.heap.size, 0, none⟩ 1 1 (RecD.cells ⟨c.c, l, 0, r.clk, -1, -1, openB⟩) rfl (World.news_of_block (cs := (RecD.cells ⟨c.c, l, 0, r.clk, -1, -1, openB⟩).toArray) (heap_alloc_new _ _)) (by intro u hu; simp [RecD.cells] at hu; rcases hu with rfl | rfl | rfl | rfl | rfl | rfl | rfl <;> rfl) (by unfold maxLen; omega) (by omega) (by have := HRA.out.lob; have := HZ2.out; simp; omega)
          have HG1 := Lib.hid hgr1
          have HOW1 := Lib.hid hown1
          have HAT1 := Lib.hid hat1
          have kx := (blk_grown6 hgr1 (blk_alloc HKB.out _) (by omega)).1
          have kx4 := blk_cell kx 4
          have kxf := blk_frozen' kx
          clear hown1 hgr1 B1 hat1 kx
          refine wp_RG7 w2 w3 gb gf v.gR r.recs.length v.cR g1 c1 nf cf c.c l r.clk rfl rfl rfl rfl k3 k4 q0 hf0 (by omega) hap kx4 (kxf _) rfl ?_
          clear hap kx4 kxf
          rw [Go.Mt.fillT_L, opsRG7_dst]
          simp only [Go.Mt.fillL, List.set_cons_zero, List.set_cons_succ, fRG7, List.getD_cons_zero, List.getD_cons_succ]
          go_wp2_with fail
          go_meet
          have gfn : gf ≠ v.gR := by omega
          refine ⟨g1, c1, ((HRA.out.alloc _).drew).appR HG1.out HOW1.out rfl HAT1.out, ?_, ?_, ?_⟩
          · exact (Below.heap_setCell w3 _ _ (gb + 1) (by show gb + 1 ≠ gb; omega)).trans (blk_grown6 HG1.out (blk_drew (blk_alloc HKC.out _)) (by omega)).1
          · exact (Below.heap_setCell w3 _ _ (gb + 2) (by show gb + 2 ≠ gb; omega)).trans (blk_grown6 HG1.out (blk_drew (blk_alloc HKR.out _)) (by omega)).1
          · exact row_keep' HFR.out ((Below.heap_setCell w3 _ _ gf (by show gf ≠ gb; omega)).trans ((HG1.out.block gf (by simp; omega) (by simp; exact gfn)).trans (Below.heap_alloc _ _ gf (by omega))))
        case rest =>
          obtain ⟨g1, c1, ha1, hkc, hkr, hfr⟩ := hcut
          clear k0 k1 k2 k3 k4 k5 k6 k7 q0 q1 z0 z1 z2 z3 z4 z5 z6 z7 r0 hf0
          have HA1 := Lib.hid ha1
          have HKC := Lib.hid hkc
          have HKR := Lib.hid hkr
          have HFR := Lib.hid hfr
          obtain ⟨v1, hv1⟩ : ∃ y : RoomV, y = { v with gR := g1, cR := c1 } := ⟨_, rfl⟩
          obtain ⟨r1, hr1⟩ : ∃ y : RoomD, y = { r with recs := r.recs ++ [⟨c.c, l, 0, r.clk, -1, -1, openB⟩] } := ⟨_, rfl⟩
          have HW1 := Lib.hid (show r1.wait = r.wait by rw [hr1])
          have hnw1 : r1.wait.length ≤ 1000 := by rw [hr1]; exact hs.nw
          rw [← hv1, ← hr1] at HA1
          replace HKN := Lib.hid (show ringsF r c = ({ r1 with wait := queuedF r1.wait c }, [108, 105, 110, 101, 32] ++ numT l) by rw [HKN.out, hr1])
          clear hv1 hr1 ha1 hkc hkr hfr
          have k := blk_cell HA1.out.blk
          have k5 := k 5
          have kf := blk_frozen' HA1.out.blk
          have q := blk_cell HKC.out
          have q0 := q 0
          have q1 := q 1
          clear k q
          go_upto_region 9 with (go_at_call 103; refine (l6Queued_any lo wc.heap.size r1.wait.length v1.cW v1.gW r1.wait c wc HA1.out.ok.slcW (by omega)).mono ?_; rintro x w4 ⟨_, rfl, g4, c4, rfl, hown, b4⟩; have HO4 := Lib.hid hown; have HB4 := Lib.hid b4; have kx := (blk_below b4 HA1.out.blk).1; have kx5 := blk_cell kx 5; have kxf := blk_frozen' kx; clear hown b4 kx)
          obtain ⟨W5, hW5⟩ : ∃ y, y = w4.setCell ⟨gb, 5, none⟩ (.slice (some ⟨g4, 0, none⟩) (queuedF r1.wait c).length c4) := ⟨_, rfl⟩
          have HA5 := Lib.hid (show RoomAt w W5 lo gb 3 v { v1 with gW := g4, cW := c4 } { r1 with wait := queuedF r1.wait c } by rw [hW5]; exact HA1.out.setW HB4.out HO4.out rfl)
          have HKR5 := Lib.hid (show W5.heap[gb + 2]? = some roomZ by rw [hW5]; exact (Below.heap_setCell w4 _ _ (gb + 2) (by show gb + 2 ≠ gb; omega)).trans (blk_below HB4.out HKR.out).1)
          have hfr5 : W5.ownsRow W1.heap.size 3 1 (.slice (some ⟨gf, 0, none⟩) nf cf) nf (ints (l :: fs)) := by
            rw [hW5]
            have := HGF.out; have := HZ1.out
            exact row_keep' HFR.out ((Below.heap_setCell w4 _ _ gf (by show gf ≠ gb; omega)).trans (HB4.out.block gf (HFR.out.lt gf rfl).2))
          have hf0 : W5.cell? ⟨gf, 0, none⟩ = some (.int .i64 l) := hfr5.cellAt 0 (by omega)
          rw [← hW5]
          clear hW5 kx5 kxf k5 kf q0 q1 hfr5
          obtain ⟨v5, hv5⟩ : ∃ y : RoomV, y = { v1 with gW := g4, cW := c4 } := ⟨_, rfl⟩
          obtain ⟨r5, hr5⟩ : ∃ y : RoomD, y = { r1 with wait := queuedF r1.wait c } := ⟨_, rfl⟩
          rw [← hv5, ← hr5] at HA5
          rw [← hr5] at HKN
          clear hv5 hr5
          obtain ⟨m, hm⟩ : ∃ m : Nat, l = (m : Int) := ⟨l.toNat, by have := HFB.out; omega⟩
          have hm6 : m ≤ 100000000 := by have := HFB.out; have := (offB_parts hs.off).2.1; omega
          have hll : (Lib.itoa (m : Int)).length ≤ 20 := by rw [Lib.itoa_nonneg]; exact dec_len (by omega)
          rw [hm] at hf0 HKN
          clear hm
          have k := blk_cell HA5.out.blk
          have k0 := k 0
          have k1 := k 1
          have k2 := k 2
          have k3 := k 3
          have k4 := k 4
          have k5 := k 5
          have k6 := k 6
          have k7 := k 7
          clear k
          go_wp2_with fail
          go_region_with (go_at_call 104; refine (l11Dec_any m hm6 _).mono ?_; rintro x w6 ⟨rfl, hb6⟩; have hb6' : Below W5.heap.size W5 w6 := ⟨hb6.os, hb6.tape, hb6.output, hb6.size, hb6.block⟩; have HB6 := Lib.hid hb6'; have k := blk_cell (blk_below hb6' HA5.out.blk).1; have r0 := blk_frozen' (blk_below hb6' HKR5.out).1; have z := blk_cell (blk_below hb6' HKR5.out).1; have k0 := k 0; have k1 := k 1; have k2 := k 2; have k3 := k 3; have k4 := k 4; have k5 := k 5; have k6 := k 6; have k7 := k 7; have z0 := z 0; have z1 := z 1; have z2 := z 2; have z3 := z 3; have z4 := z 4; have z5 := z 5; have z6 := z 6; have z7 := z 7; clear k z hb6 hb6')
          all_goals
            go_wp2_with fail
            have HA6 := HA5.out.keep HB6.out
            have HKR6 := (blk_below HB6.out HKR5.out).1
            have er := blk_cell (set8_blk (a0 := .int .i64 r5.o.ln) (a1 := .int .i64 r5.o.op) (a2 := .int .i64 r5.o.pt) (a3 := .int .i64 r5.clk) (a4 := v5.sR r5) (a5 := v5.sW r5) (a6 := v5.sB r5) (a7 := v5.sL r5) HKR6)
            refine bodyPost_ret (v := .tuple #[.agg (roomA v5 r5), .string ⟨([108, 105, 110, 101, 32] ++ numT (m : Int) : List UInt8).toArray⟩]) ?_ rfl ?_
            · unfold set8 at er
              simp [results, Try.results95, go_sem, er, numT, bytes_app]
              done
            · rw [HKN.out]
              obtain ⟨d1, d2, d3⟩ := HA6.done (b := gb + 2) (by omega)
              exact ⟨v5, rfl, d1, d2, d3⟩
    · have HFI := Lib.hid (posI_some hfi)
      have hj0 : (0 : Int) ≤ (j : Int) := by omega
      have HKN := Lib.hid (rings_known (b := r) (c := c) (.inr (by rw [hfi]; rfl)))
      clear hop hfi
      go_wp2_with (first
        | (go_at_call 101; refine (l6Open_any lo w2.heap.size r.recs.length v.cR (some ⟨v.gR, 0, none⟩) r.recs c.c w2 HSR.out (by omega)).mono ?_; rintro x w' ⟨rfl, hww⟩; obtain rfl := hww.symm; rw [HOP.out])
        | (go_at_call 102; refine (l6Find_any lo w2.heap.size r.back.length v.cB (some ⟨v.gB, 0, none⟩) r.back c.c w2 HSB.out (by omega)).mono ?_; rintro x w' ⟨rfl, hww⟩; obtain rfl := hww.symm; rw [HFI.out]))
      have er := blk_cell (set8_blk (a0 := .int .i64 (r).o.ln) (a1 := .int .i64 (r).o.op) (a2 := .int .i64 (r).o.pt) (a3 := .int .i64 (r).clk) (a4 := (v).sR (r)) (a5 := (v).sW (r)) (a6 := (v).sB (r)) (a7 := (v).sL (r)) HKR.out)
      refine bodyPost_ret (v := .tuple #[.agg (roomA (v) (r)), .string ⟨([107, 110, 111, 119, 110] : List UInt8).toArray⟩]) ?_ rfl ?_
      · unfold set8 at er
        simp [results, Try.results95, go_sem, er]
      · rw [HKN.out]
        have l := HL.out
        have gg := HGB.out
        have l2 := HR2.out.lts
        exact ⟨v, rfl, HR2.out.set8 (by omega), HT2.out.set8 (by omega), Moved.refl _ _⟩
  · have HOP := Lib.hid (posI_some hop)
    have hi0 : (0 : Int) ≤ (i : Int) := by omega
    have HKN := Lib.hid (rings_known (b := r) (c := c) (.inl (by rw [hop]; rfl)))
    clear hop
    go_wp2_with (go_at_call 101; refine (l6Open_any lo w2.heap.size r.recs.length v.cR (some ⟨v.gR, 0, none⟩) r.recs c.c w2 HSR.out (by omega)).mono ?_; rintro x w' ⟨rfl, hww⟩; obtain rfl := hww.symm; rw [HOP.out])
    have er := blk_cell (set8_blk (a0 := .int .i64 (r).o.ln) (a1 := .int .i64 (r).o.op) (a2 := .int .i64 (r).o.pt) (a3 := .int .i64 (r).clk) (a4 := (v).sR (r)) (a5 := (v).sW (r)) (a6 := (v).sB (r)) (a7 := (v).sL (r)) HKR.out)
    refine bodyPost_ret (v := .tuple #[.agg (roomA (v) (r)), .string ⟨([107, 110, 111, 119, 110] : List UInt8).toArray⟩]) ?_ rfl ?_
    · unfold set8 at er
      simp [results, Try.results95, go_sem, er]
    · rw [HKN.out]
      have l := HL.out
      have gg := HGB.out
      have l2 := HR2.out.lts
      exact ⟨v, rfl, HR2.out.set8 (by omega), HT2.out.set8 (by omega), Moved.refl _ _⟩
end Go.Proofs.Ytjcpjijihajopaa
namespace Go.Proofs.Ytjcpjijihajopaa
open Go.RowKit
set_option linter.unusedVariables false
structure WaitsOk (r : RoomD) : Prop where
  has : ∀ x ∈ r.wait, (openAt r.recs x.c).isSome = true
  num : ∀ x ∈ r.wait, 1 ≤ x.c ∧ x.c ≤ 99
theorem openAt_get {rs : List RecD} {c : Int} {i : Nat} (h : openAt rs c = some i) : ∃ d, rs[i]? = some d ∧ d.c = c ∧ isOpen d = true := by
  unfold openAt at h
  rw [List.findIdx?_eq_some_iff_getElem] at h
  obtain ⟨hi, hp, _⟩ := h
  refine ⟨rs[i], List.getElem?_eq_getElem hi, ?_⟩
  unfold openP at hp
  simp at hp
  exact hp
theorem RoomAt.widen {w0 w : World} {lo gb : Nat} {v0 v : RoomV} {r : RoomD} (h : RoomAt w0 w lo gb 2 v0 v r) (hg : v.gR < gb ∧ v.gW < gb ∧ v.gB < gb ∧ v.gL < gb) (hz : gb + 3 ≤ w.heap.size) : RoomAt w0 w lo gb 3 v0 v r :=
  ⟨h.ok, h.turn, h.moved, h.base, h.blk, hz, by omega, .inl hg.1, .inl hg.2.1, .inl hg.2.2.1, .inl hg.2.2.2, h.lob⟩
set_option maxHeartbeats 8000000 in
set_option maxRecDepth 20000 in
theorem l6Answers_any (lo : Nat) (v : RoomV) (r : RoomD) (op : Int) (w : World) (h : RoomOk w lo v r) (hs : RoomSmall r) (hlo : lo ≤ w.heap.size) (hq : WaitsOk r) :
    Calls Try.prog 96 #[.agg (roomA v r), .int .i64 op] w (StepSays lo v w (answersF r op)) := by
  obtain ⟨gb, hgb⟩ : ∃ g, g = w.heap.size := ⟨_, rfl⟩
  have hl := h.lts
  obtain ⟨O, hO⟩ : ∃ O : Obj, O = .cells (roomA v r) 121 := ⟨_, rfl⟩
  obtain ⟨Z, hZ⟩ : ∃ Z : Obj, Z = roomZ := ⟨_, rfl⟩
  have hk0 : ((w.alloc O).alloc Z).heap[gb]? = some (roomO v r) := by rw [hO, hgb]; exact blk_alloc (heap_alloc_new _ _) _
  have hk1 : ((w.alloc O).alloc Z).heap[gb + 1]? = some roomZ := by rw [← hZ]; exact heap_new' _ _ (by rw [hgb]; simp)
  have hz1 : ((w.alloc O).alloc Z).heap.size = gb + 2 := by rw [hgb]; simp
  have HRA := Lib.hid (show RoomAt w ((w.alloc O).alloc Z) lo gb 2 v v r from ⟨(h.alloc O).alloc Z, Turn.of_below v (below_al (below_al (Below.refl _ _) _) _), Moved.refl _ _, hgb, hk0, by rw [hz1]; exact Nat.le_refl _, by omega, .inl (by omega), .inl (by omega), .inl (by omega), .inl (by omega), by omega⟩)
  have HZ1 := Lib.hid hz1
  have HKR := Lib.hid hk1
  have HO := Lib.hid hO
  have HZ := Lib.hid (show Z = .cells #[.int .i64 0, .int .i64 0, .int .i64 0, .int .i64 0, .slice none 0 0, .slice none 0 0, .slice none 0 0, .slice none 0 0] 121 from hZ)
  have HGB := Lib.hid hgb
  have HL := Lib.hid (show v.gR < gb ∧ v.gW < gb ∧ v.gB < gb ∧ v.gL < gb by omega)
  clear hO hZ hgb hk0 hk1 hz1 h hl
  go_enter Try.func96, Try.ntmps96
  go_upto_region 1 with fail
  rw [← HO.out, ← HZ.out, ← HGB.out]
  obtain ⟨W1, hW1⟩ : ∃ y, y = (w.alloc O).alloc Z := ⟨_, rfl⟩
  rw [← hW1] at HRA HKR HZ1 ⊢
  clear hW1
  have k := blk_cell HRA.out.blk
  have k0 := k 0
  have k1 := k 1
  have k2 := k 2
  have k3 := k 3
  have k4 := k 4
  have k5 := k 5
  have k6 := k 6
  have k7 := k 7
  clear k
  have hn1 := hs.nr
  have HSR := Lib.hid HRA.out.ok.slcR
  by_cases htk : 0 < talksF r.recs op
  · have HKN := Lib.hid (show answersF r op = (r, [116, 97, 108, 107, 115]) by unfold answersF; rw [if_pos htk])
    go_upto_region 2 with (go_at_call 105; refine (l6Talks_any lo W1.heap.size r.recs.length v.cR (some ⟨v.gR, 0, none⟩) r.recs op W1 HSR.out (by omega)).mono ?_; rintro x w2 ⟨rfl, hww⟩; obtain rfl := hww.symm)
    clear k0 k1 k2 k3 k4 k5 k6 k7 htk
    have k := blk_cell HRA.out.blk
    have k0 := k 0
    have k1 := k 1
    have k2 := k 2
    have k3 := k 3
    have k4 := k 4
    have k5 := k 5
    have k6 := k 6
    have k7 := k 7
    clear k
    have z := blk_cell HKR.out
    have z0 := z 0
    have z1 := z 1
    have z2 := z 2
    have z3 := z 3
    have z4 := z 4
    have z5 := z 5
    have z6 := z 6
    have z7 := z 7
    clear z
    have r0 := blk_frozen' HKR.out
    go_wp2_with fail
    have er := blk_cell (set8_blk (a0 := .int .i64 (r).o.ln) (a1 := .int .i64 (r).o.op) (a2 := .int .i64 (r).o.pt) (a3 := .int .i64 (r).clk) (a4 := (v).sR (r)) (a5 := (v).sW (r)) (a6 := (v).sB (r)) (a7 := (v).sL (r)) HKR.out)
    refine bodyPost_ret (v := .tuple #[.agg (roomA (v) (r)), .string ⟨([116, 97, 108, 107, 115] : List UInt8).toArray⟩]) ?_ rfl ?_
    · unfold set8 at er
      simp [results, Try.results96, go_sem, er]
    · rw [HKN.out]
      obtain ⟨d1, d2, d3⟩ := HRA.out.done (b := gb + 1) (by omega)
      exact ⟨v, rfl, d1, d2, d3⟩
  · rcases hwt : r.wait with _ | ⟨c, cs⟩
    · have HKN := Lib.hid (show answersF r op = (r, [110, 111, 110, 101]) by unfold answersF; rw [if_neg htk, hwt])
      have hwl : r.wait.length = 0 := by rw [hwt]; rfl
      have HWL := Lib.hid (show v.sW r = .slice (some ⟨v.gW, 0, none⟩) 0 v.cW by unfold RoomV.sW; rw [hwl])
      have k5' : W1.cell? ⟨gb, 5, none⟩ = some (.slice (some ⟨v.gW, 0, none⟩) 0 v.cW) := by rw [k5, ← HWL.out]; rfl
      clear k5 hwl hwt
      go_upto_region 4 with (go_at_call 105; refine (l6Talks_any lo W1.heap.size r.recs.length v.cR (some ⟨v.gR, 0, none⟩) r.recs op W1 HSR.out (by omega)).mono ?_; rintro x w2 ⟨rfl, hww⟩; obtain rfl := hww.symm)
      clear k0 k1 k2 k3 k4 k5' k6 k7 htk
      have k := blk_cell HRA.out.blk
      have k0 := k 0
      have k1 := k 1
      have k2 := k 2
      have k3 := k 3
      have k4 := k 4
      have k5 := k 5
      have k6 := k 6
      have k7 := k 7
      clear k
      have z := blk_cell HKR.out
      have z0 := z 0
      have z1 := z 1
      have z2 := z 2
      have z3 := z 3
      have z4 := z 4
      have z5 := z 5
      have z6 := z 6
      have z7 := z 7
      clear z
      have r0 := blk_frozen' HKR.out
      go_wp2_with fail
      have er := blk_cell (set8_blk (a0 := .int .i64 (r).o.ln) (a1 := .int .i64 (r).o.op) (a2 := .int .i64 (r).o.pt) (a3 := .int .i64 (r).clk) (a4 := (v).sR (r)) (a5 := (v).sW (r)) (a6 := (v).sB (r)) (a7 := (v).sL (r)) HKR.out)
      refine bodyPost_ret (v := .tuple #[.agg (roomA (v) (r)), .string ⟨([110, 111, 110, 101] : List UInt8).toArray⟩]) ?_ rfl ?_
      · unfold set8 at er
        simp [results, Try.results96, go_sem, er]
      · rw [HKN.out]
        obtain ⟨d1, d2, d3⟩ := HRA.out.done (b := gb + 1) (by omega)
        exact ⟨v, rfl, d1, d2, d3⟩
    · have hc := hq.num c (by rw [hwt]; simp)
      obtain ⟨i, hoi⟩ := Option.isSome_iff_exists.1 (hq.has c (by rw [hwt]; simp))
      obtain ⟨d, hd, hdc, -⟩ := openAt_get hoi
      have HKN := Lib.hid (show answersF r op = ({ r with recs := r.recs.modify i fun d => { d with o := op, h := r.clk }, wait := withoutF r.wait c.c }, [99, 97, 108, 108, 32] ++ numT c.c) by unfold answersF; rw [if_neg htk, hwt]; simp only [hoi])
      have hwl : 0 < r.wait.length := by rw [hwt]; simp
      have HW0 := Lib.hid (show r.wait[0]? = some c by rw [hwt]; rfl)
      have hsw := HRA.out.ok.slcW
      have HSW := Lib.hid hsw
      obtain ⟨b0, off0, d0, hA0, -, -, -, hx0, e0, e1⟩ := hsw.callsAt (k := 0) hwl
      rw [HW0.out] at hx0
      injection hx0 with hx0
      injection hA0 with hA0
      injection hA0 with hA1 hA2
      subst hA1 hA2 hx0
      simp only [Nat.zero_add, Nat.zero_mul] at e0 e1
      have hwz2 : (((r.wait.length : Nat) : Int) == 0) = false := by simp; intro e; rw [e] at hwl; simp at hwl
      have i0 : (0 : Int) < (r.wait.length : Int) := by omega
      have HOI := Lib.hid (posI_some hoi)
      have HD := Lib.hid hd
      clear hoi hd hdc hwt hsw
      go_upto_region 5 with (go_at_call 105; refine (l6Talks_any lo W1.heap.size r.recs.length v.cR (some ⟨v.gR, 0, none⟩) r.recs op W1 HSR.out (by omega)).mono ?_; rintro x w2 ⟨rfl, hww⟩; obtain rfl := hww.symm)
      clear k0 k1 k2 k3 k4 k6 k7 htk
      go_upto_region 6 with fail
      rw [HZ1.out]
      obtain ⟨W2, hW2⟩ : ∃ y, y = W1.alloc (callO c) := ⟨_, rfl⟩
      rw [← hW2]
      have HA2 := Lib.hid (show RoomAt w W2 lo gb 3 v v r by rw [hW2]; exact (HRA.out.alloc _).widen HL.out (by have := HZ1.out; simp; omega))
      have HKR2 := Lib.hid (show W2.heap[gb + 1]? = some roomZ by rw [hW2]; exact blk_alloc HKR.out _)
      have HKC2 := Lib.hid (show W2.heap[gb + 2]? = some (callO c) by rw [hW2]; exact heap_new' _ _ HZ1.out.symm)
      clear hW2 e0 e1 k5
      have HSR2 := Lib.hid HA2.out.ok.slcR
      have k := blk_cell HA2.out.blk
      have k0 := k 0
      have k1 := k 1
      have k2 := k 2
      have k3 := k 3
      have k4 := k 4
      have k5 := k 5
      have k6 := k 6
      have k7 := k 7
      clear k
      have q := blk_cell HKC2.out
      have q0 := q 0
      have q1 := q 1
      clear q
      go_upto_region 7 with (go_at_call 101; refine (l6Open_any lo W2.heap.size r.recs.length v.cR (some ⟨v.gR, 0, none⟩) r.recs c.c W2 HSR2.out (by omega)).mono ?_; rintro x w2 ⟨rfl, hww⟩; obtain rfl := hww.symm; rw [HOI.out])
      have hi := (List.getElem?_eq_some_iff.1 HD.out).1
      have hi0 : (0 : Int) ≤ (i : Int) := by omega
      have hi1 : (i : Int) < (r.recs.length : Int) := by omega
      obtain ⟨c0, c1, c2, c3, c4, c5, c6⟩ := HA2.out.ok.recAt HD.out
      have fz := fun j => HA2.out.ok.rc.frozenAt j
      have S1 := HA2.out.setR (fun d => { d with o := op }) HD.out (j := 2) (u := .int .i64 op) (by decide) (by intro k hk hne; have hk' : k = 0 ∨ k = 1 ∨ k = 3 ∨ k = 4 ∨ k = 5 ∨ k = 6 := (by omega); rcases hk' with rfl | rfl | rfl | rfl | rfl | rfl <;> rfl) rfl
      have HS1 := Lib.hid S1
      have hgR1 : gb + 1 ≠ v.gR := by have := HL.out; omega
      have hgR2 : gb + 2 ≠ v.gR := by have := HL.out; omega
      clear S1
      go_upto_region 8 with fail
      obtain ⟨W3, hW3⟩ : ∃ y, y = W2.setCell ⟨v.gR, i * 7 + 2, none⟩ (.int .i64 op) := ⟨_, rfl⟩
      rw [← hW3] at HS1 ⊢
      have HKR3 := Lib.hid (show W3.heap[gb + 1]? = some roomZ by rw [hW3]; exact (Below.heap_setCell _ _ _ (gb + 1) hgR1).trans HKR2.out)
      have HKC3 := Lib.hid (show W3.heap[gb + 2]? = some (callO c) by rw [hW3]; exact (Below.heap_setCell _ _ _ (gb + 2) hgR2).trans HKC2.out)
      have hd2 : (r.recs.modify i fun d => { d with o := op })[i]? = some { d with o := op } := by rw [List.getElem?_modify]; simp [HD.out]
      have HD2 := Lib.hid hd2
      clear hW3 c0 c1 c2 c3 c4 c5 c6 fz k0 k1 k2 k3 k4 k5 k6 k7 q0 q1 hd2
      obtain ⟨r1, hr1⟩ : ∃ y : RoomD, y = { r with recs := r.recs.modify i fun d => { d with o := op } } := ⟨_, rfl⟩
      rw [← hr1] at HS1
      have HR1 := Lib.hid hr1
      have hrl : r1.recs.length = r.recs.length := by rw [hr1]; exact List.length_modify _ _ _
      have HDX := Lib.hid (show r1.recs[i]? = some { d with o := op } by rw [hr1]; exact HD2.out)
      have hi2 : (i : Int) < (r1.recs.length : Int) := by rw [hrl]; exact hi1
      clear hr1 hrl
      have k := blk_cell HS1.out.blk
      have k0 := k 0
      have k1 := k 1
      have k2 := k 2
      have k3 := k 3
      have k4 := k 4
      have k5 := k 5
      have k6 := k 6
      have k7 := k 7
      clear k
      obtain ⟨c0, c1, c2, c3, c4, c5, c6⟩ := HS1.out.ok.recAt HDX.out
      have fz := fun j => HS1.out.ok.rc.frozenAt j
      have S2 := HS1.out.setR (fun d => { d with h := r1.clk }) HDX.out (j := 4) (u := .int .i64 r1.clk) (by decide) (by intro k hk hne; have hk' : k = 0 ∨ k = 1 ∨ k = 2 ∨ k = 3 ∨ k = 5 ∨ k = 6 := (by omega); rcases hk' with rfl | rfl | rfl | rfl | rfl | rfl <;> rfl) rfl
      have HS2 := Lib.hid S2
      clear S2
      go_upto_region 9 with fail
      obtain ⟨W4, hW4⟩ : ∃ y, y = W3.setCell ⟨v.gR, i * 7 + 4, none⟩ (.int .i64 r1.clk) := ⟨_, rfl⟩
      rw [← hW4] at HS2 ⊢
      have HKR4 := Lib.hid (show W4.heap[gb + 1]? = some roomZ by rw [hW4]; exact (Below.heap_setCell _ _ _ (gb + 1) hgR1).trans HKR3.out)
      have HKC4 := Lib.hid (show W4.heap[gb + 2]? = some (callO c) by rw [hW4]; exact (Below.heap_setCell _ _ _ (gb + 2) hgR2).trans HKC3.out)
      clear hW4 c0 c1 c2 c3 c4 c5 c6 fz k0 k1 k2 k3 k4 k5 k6 k7
      obtain ⟨r2, hr2⟩ : ∃ y : RoomD, y = { r1 with recs := r1.recs.modify i fun d => { d with h := r1.clk } } := ⟨_, rfl⟩
      rw [← hr2] at HS2
      have hnw2 : r2.wait.length ≤ 1000 := by rw [hr2, HR1.out]; exact hs.nw
      replace HKN := Lib.hid (show answersF r op = ({ r2 with wait := withoutF r2.wait c.c }, [99, 97, 108, 108, 32] ++ numT c.c) by rw [HKN.out, hr2, HR1.out]; simp only [modify_comp])
      clear hr2
      have HSW2 := Lib.hid HS2.out.ok.slcW
      have k := blk_cell HS2.out.blk
      have k0 := k 0
      have k1 := k 1
      have k2 := k 2
      have k3 := k 3
      have k4 := k 4
      have k5 := k 5
      have k6 := k 6
      have k7 := k 7
      clear k
      have q := blk_cell HKC4.out
      have q0 := q 0
      have q1 := q 1
      clear q
      have kf := blk_frozen' HS2.out.blk
      go_upto_region 10 with (go_at_call 106; refine (l6Without_any lo W4.heap.size r2.wait.length v.cW (some ⟨v.gW, 0, none⟩) r2.wait c.c W4 HSW2.out (by omega)).mono ?_; rintro x w5 ⟨_, rfl, g5, c5, rfl, hown, b5⟩; have HO5 := Lib.hid hown; have HB5 := Lib.hid b5; have kx := (blk_below b5 HS2.out.blk).1; have kx5 := blk_cell kx 5; have kxf := blk_frozen' kx; clear hown b5 kx)
      obtain ⟨W5, hW5⟩ : ∃ y, y = w5.setCell ⟨gb, 5, none⟩ (.slice (some ⟨g5, 0, none⟩) (withoutF r2.wait c.c).length c5) := ⟨_, rfl⟩
      have HA5 := Lib.hid (show RoomAt w W5 lo gb 3 v { v with gW := g5, cW := c5 } { r2 with wait := withoutF r2.wait c.c } by rw [hW5]; exact HS2.out.setW HB5.out HO5.out rfl)
      have HKR5 := Lib.hid (show W5.heap[gb + 1]? = some roomZ by rw [hW5]; exact (Below.heap_setCell w5 _ _ (gb + 1) (by show gb + 1 ≠ gb; omega)).trans (blk_below HB5.out HKR4.out).1)
      have HKC5 := Lib.hid (show W5.heap[gb + 2]? = some (callO c) by rw [hW5]; exact (Below.heap_setCell w5 _ _ (gb + 2) (by show gb + 2 ≠ gb; omega)).trans (blk_below HB5.out HKC4.out).1)
      rw [← hW5]
      clear hW5 kx5 kxf kf q0 q1 k0 k1 k2 k3 k4 k5 k6 k7
      obtain ⟨v5, hv5⟩ : ∃ y : RoomV, y = { v with gW := g5, cW := c5 } := ⟨_, rfl⟩
      obtain ⟨r5, hr5⟩ : ∃ y : RoomD, y = { r2 with wait := withoutF r2.wait c.c } := ⟨_, rfl⟩
      rw [← hv5, ← hr5] at HA5
      rw [← hr5] at HKN
      clear hv5 hr5
      obtain ⟨m, hm⟩ : ∃ m : Nat, c.c = (m : Int) := ⟨c.c.toNat, by omega⟩
      have hm6 : m ≤ 100000000 := by omega
      have hll : (Lib.itoa (m : Int)).length ≤ 20 := by rw [Lib.itoa_nonneg]; exact dec_len (by omega)
      have k := blk_cell HA5.out.blk
      have k0 := k 0
      have k1 := k 1
      have k2 := k 2
      have k3 := k 3
      have k4 := k 4
      have k5 := k 5
      have k6 := k 6
      have k7 := k 7
      clear k
      have q0 := blk_cell HKC5.out 0
      rw [hm] at q0 HKN
      clear hm
      go_wp2_with fail
      go_region_with (go_at_call 104; refine (l11Dec_any m hm6 _).mono ?_; rintro x w6 ⟨rfl, hb6⟩; have hb6' : Below W5.heap.size W5 w6 := ⟨hb6.os, hb6.tape, hb6.output, hb6.size, hb6.block⟩; have HB6 := Lib.hid hb6'; have k := blk_cell (blk_below hb6' HA5.out.blk).1; have r0 := blk_frozen' (blk_below hb6' HKR5.out).1; have z := blk_cell (blk_below hb6' HKR5.out).1; have k0 := k 0; have k1 := k 1; have k2 := k 2; have k3 := k 3; have k4 := k 4; have k5 := k 5; have k6 := k 6; have k7 := k 7; have z0 := z 0; have z1 := z 1; have z2 := z 2; have z3 := z 3; have z4 := z 4; have z5 := z 5; have z6 := z 6; have z7 := z 7; clear k z hb6 hb6')
      all_goals
        go_wp2_with fail
        have HA6 := HA5.out.keep HB6.out
        have HKR6 := (blk_below HB6.out HKR5.out).1
        have er := blk_cell (set8_blk (a0 := .int .i64 (r5).o.ln) (a1 := .int .i64 (r5).o.op) (a2 := .int .i64 (r5).o.pt) (a3 := .int .i64 (r5).clk) (a4 := (v5).sR (r5)) (a5 := (v5).sW (r5)) (a6 := (v5).sB (r5)) (a7 := (v5).sL (r5)) HKR6)
        refine bodyPost_ret (v := .tuple #[.agg (roomA (v5) (r5)), .string ⟨([99, 97, 108, 108, 32] ++ numT (m : Int) : List UInt8).toArray⟩]) ?_ rfl ?_
        · unfold set8 at er
          simp [results, Try.results96, go_sem, er, numT, bytes_app]
        · rw [HKN.out]
          obtain ⟨d1, d2, d3⟩ := HA6.done (b := gb + 1) (by omega)
          exact ⟨v5, rfl, d1, d2, d3⟩
end Go.Proofs.Ytjcpjijihajopaa
namespace Go.Proofs.Ytjcpjijihajopaa
open Go.RowKit
set_option linter.unusedVariables false
set_option maxHeartbeats 8000000 in
set_option maxRecDepth 20000 in
theorem l6Returns_any (lo : Nat) (v : RoomV) (r : RoomD) (op : Int) (w : World) (h : RoomOk w lo v r) (hs : RoomSmall r) (hlo : lo ≤ w.heap.size) (hq : ∀ x ∈ r.back, 1 ≤ x.c ∧ x.c ≤ 99) :
    Calls Try.prog 97 #[.agg (roomA v r), .int .i64 op] w (StepSays lo v w (returnsF r op)) := by
  obtain ⟨gb, hgb⟩ : ∃ g, g = w.heap.size := ⟨_, rfl⟩
  have hl := h.lts
  obtain ⟨O, hO⟩ : ∃ O : Obj, O = .cells (roomA v r) 121 := ⟨_, rfl⟩
  obtain ⟨Z, hZ⟩ : ∃ Z : Obj, Z = roomZ := ⟨_, rfl⟩
  have hk0 : ((w.alloc O).alloc Z).heap[gb]? = some (roomO v r) := by rw [hO, hgb]; exact blk_alloc (heap_alloc_new _ _) _
  have hk1 : ((w.alloc O).alloc Z).heap[gb + 1]? = some roomZ := by rw [← hZ]; exact heap_new' _ _ (by rw [hgb]; simp)
  have hz1 : ((w.alloc O).alloc Z).heap.size = gb + 2 := by rw [hgb]; simp
  have HRA := Lib.hid (show RoomAt w ((w.alloc O).alloc Z) lo gb 2 v v r from ⟨(h.alloc O).alloc Z, Turn.of_below v (below_al (below_al (Below.refl _ _) _) _), Moved.refl _ _, hgb, hk0, by rw [hz1]; exact Nat.le_refl _, by omega, .inl (by omega), .inl (by omega), .inl (by omega), .inl (by omega), by omega⟩)
  have HZ1 := Lib.hid hz1
  have HKR := Lib.hid hk1
  have HO := Lib.hid hO
  have HZ := Lib.hid (show Z = .cells #[.int .i64 0, .int .i64 0, .int .i64 0, .int .i64 0, .slice none 0 0, .slice none 0 0, .slice none 0 0, .slice none 0 0] 121 from hZ)
  have HGB := Lib.hid hgb
  have HL := Lib.hid (show v.gR < gb ∧ v.gW < gb ∧ v.gB < gb ∧ v.gL < gb by omega)
  clear hO hZ hgb hk0 hk1 hz1 h hl
  go_enter Try.func97, Try.ntmps97
  go_upto_region 1 with fail
  rw [← HO.out, ← HZ.out, ← HGB.out]
  obtain ⟨W1, hW1⟩ : ∃ y, y = (w.alloc O).alloc Z := ⟨_, rfl⟩
  rw [← hW1] at HRA HKR HZ1 ⊢
  clear hW1
  have k := blk_cell HRA.out.blk
  have k0 := k 0
  have k1 := k 1
  have k2 := k 2
  have k3 := k 3
  have k4 := k 4
  have k5 := k 5
  have k6 := k 6
  have k7 := k 7
  clear k
  have hn1 := hs.nr
  go_upto_region 2 with (go_at_call 100; refine (l6Free_any lo v r W1 HRA.out.ok (by omega) hs.off).mono ?_; rintro x w2 ⟨_, rfl, gf, cf, rfl, hown, b2⟩; have HOF := Lib.hid hown; have HB2 := Lib.hid b2; clear hown b2)
  have HRB := Lib.hid (HRA.out.keep HB2.out)
  have HKR2 := Lib.hid (blk_below HB2.out HKR.out).1
  have HGF := Lib.hid (HOF.out.lt gf rfl)
  clear k0 k1 k2 k3 k4 k5 k6 k7
  have k := blk_cell HRB.out.blk
  have k0 := k 0
  have k1 := k 1
  have k2 := k 2
  have k3 := k 3
  have k4 := k 4
  have k5 := k 5
  have k6 := k 6
  have k7 := k 7
  clear k
  have HSR := Lib.hid HRB.out.ok.slcR
  by_cases htk : 0 < talksF r.recs op
  · have HKN := Lib.hid (show returnsF r op = (r, [116, 97, 108, 107, 115]) by unfold returnsF; rw [if_pos htk])
    go_upto_region 3 with (go_at_call 105; refine (l6Talks_any lo w2.heap.size r.recs.length v.cR (some ⟨v.gR, 0, none⟩) r.recs op w2 HSR.out (by omega)).mono ?_; rintro x w9 ⟨rfl, hww⟩; obtain rfl := hww.symm)
    clear k0 k1 k2 k3 k4 k5 k6 k7 htk
    have k := blk_cell HRB.out.blk
    have k0 := k 0
    have k1 := k 1
    have k2 := k 2
    have k3 := k 3
    have k4 := k 4
    have k5 := k 5
    have k6 := k 6
    have k7 := k 7
    clear k
    have z := blk_cell HKR2.out
    have z0 := z 0
    have z1 := z 1
    have z2 := z 2
    have z3 := z 3
    have z4 := z 4
    have z5 := z 5
    have z6 := z 6
    have z7 := z 7
    clear z
    have r0 := blk_frozen' HKR2.out
    go_wp2_with fail
    have er := blk_cell (set8_blk (a0 := .int .i64 (r).o.ln) (a1 := .int .i64 (r).o.op) (a2 := .int .i64 (r).o.pt) (a3 := .int .i64 (r).clk) (a4 := (v).sR (r)) (a5 := (v).sW (r)) (a6 := (v).sB (r)) (a7 := (v).sL (r)) HKR2.out)
    refine bodyPost_ret (v := .tuple #[.agg (roomA (v) (r)), .string ⟨([116, 97, 108, 107, 115] : List UInt8).toArray⟩]) ?_ rfl ?_
    · unfold set8 at er
      simp [results, Try.results97, go_sem, er]
    · rw [HKN.out]
      obtain ⟨d1, d2, d3⟩ := HRB.out.done (b := gb + 1) (by omega)
      exact ⟨v, rfl, d1, d2, d3⟩
  · rcases hbk : r.back with _ | ⟨c, cs⟩
    · have HKN := Lib.hid (show returnsF r op = (r, [110, 111, 110, 101]) by unfold returnsF; rw [if_neg htk, hbk])
      have hwl : r.back.length = 0 := by rw [hbk]; rfl
      have HWL := Lib.hid (show v.sB r = .slice (some ⟨v.gB, 0, none⟩) 0 v.cB by unfold RoomV.sB; rw [hwl])
      have k6' : w2.cell? ⟨gb, 6, none⟩ = some (.slice (some ⟨v.gB, 0, none⟩) 0 v.cB) := by rw [k6, ← HWL.out]; rfl
      clear k6 hwl hbk
      go_upto_region 5 with (go_at_call 105; refine (l6Talks_any lo w2.heap.size r.recs.length v.cR (some ⟨v.gR, 0, none⟩) r.recs op w2 HSR.out (by omega)).mono ?_; rintro x w9 ⟨rfl, hww⟩; obtain rfl := hww.symm)
      clear k0 k1 k2 k3 k4 k5 k6' k7 htk
      have k := blk_cell HRB.out.blk
      have k0 := k 0
      have k1 := k 1
      have k2 := k 2
      have k3 := k 3
      have k4 := k 4
      have k5 := k 5
      have k6 := k 6
      have k7 := k 7
      clear k
      have z := blk_cell HKR2.out
      have z0 := z 0
      have z1 := z 1
      have z2 := z 2
      have z3 := z 3
      have z4 := z 4
      have z5 := z 5
      have z6 := z 6
      have z7 := z 7
      clear z
      have r0 := blk_frozen' HKR2.out
      go_wp2_with fail
      have er := blk_cell (set8_blk (a0 := .int .i64 (r).o.ln) (a1 := .int .i64 (r).o.op) (a2 := .int .i64 (r).o.pt) (a3 := .int .i64 (r).clk) (a4 := (v).sR (r)) (a5 := (v).sW (r)) (a6 := (v).sB (r)) (a7 := (v).sL (r)) HKR2.out)
      refine bodyPost_ret (v := .tuple #[.agg (roomA (v) (r)), .string ⟨([110, 111, 110, 101] : List UInt8).toArray⟩]) ?_ rfl ?_
      · unfold set8 at er
        simp [results, Try.results97, go_sem, er]
      · rw [HKN.out]
        obtain ⟨d1, d2, d3⟩ := HRB.out.done (b := gb + 1) (by omega)
        exact ⟨v, rfl, d1, d2, d3⟩
    · have hc := hq c (by rw [hbk]; simp)
      have hwl : 0 < r.back.length := by rw [hbk]; simp
      have HW0 := Lib.hid (show r.back[0]? = some c by rw [hbk]; rfl)
      have hwz2 : (((r.back.length : Nat) : Int) == 0) = false := by simp; intro e; rw [e] at hwl; simp at hwl
      rcases hfr : freeF r.o r.recs with _ | ⟨l, fs⟩
      · have HKN := Lib.hid (show returnsF r op = (r, [98, 117, 115, 121]) by unfold returnsF; rw [if_neg htk, hbk, hfr])
        simp only [List.length_nil]
        clear hbk hfr
        go_upto_region 7 with (go_at_call 105; refine (l6Talks_any lo w2.heap.size r.recs.length v.cR (some ⟨v.gR, 0, none⟩) r.recs op w2 HSR.out (by omega)).mono ?_; rintro x w9 ⟨rfl, hww⟩; obtain rfl := hww.symm)
        clear k0 k1 k2 k3 k4 k5 k6 k7 htk
        have k := blk_cell HRB.out.blk
        have k0 := k 0
        have k1 := k 1
        have k2 := k 2
        have k3 := k 3
        have k4 := k 4
        have k5 := k 5
        have k6 := k 6
        have k7 := k 7
        clear k
        have z := blk_cell HKR2.out
        have z0 := z 0
        have z1 := z 1
        have z2 := z 2
        have z3 := z 3
        have z4 := z 4
        have z5 := z 5
        have z6 := z 6
        have z7 := z 7
        clear z
        have r0 := blk_frozen' HKR2.out
        go_wp2_with fail
        have er := blk_cell (set8_blk (a0 := .int .i64 (r).o.ln) (a1 := .int .i64 (r).o.op) (a2 := .int .i64 (r).o.pt) (a3 := .int .i64 (r).clk) (a4 := (v).sR (r)) (a5 := (v).sW (r)) (a6 := (v).sB (r)) (a7 := (v).sL (r)) HKR2.out)
        refine bodyPost_ret (v := .tuple #[.agg (roomA (v) (r)), .string ⟨([98, 117, 115, 121] : List UInt8).toArray⟩]) ?_ rfl ?_
        · unfold set8 at er
          simp [results, Try.results97, go_sem, er]
        · rw [HKN.out]
          obtain ⟨d1, d2, d3⟩ := HRB.out.done (b := gb + 1) (by omega)
          exact ⟨v, rfl, d1, d2, d3⟩
      · have HKN := Lib.hid (show returnsF r op = ({ r with back := withoutF r.back c.c, recs := r.recs ++ [⟨c.c, l, op, r.clk, r.clk, -1, openB⟩] }, [99, 97, 108, 108, 32] ++ numT c.c) by unfold returnsF; rw [if_neg htk, hbk, hfr])
        obtain ⟨nf, hnf⟩ : ∃ n, n = (l :: fs).length := ⟨_, rfl⟩
        have hln := freeTo_len r.recs r.o.ln.toNat
        have ho6 := (offB_parts hs.off).2.1
        have hff : (freeF r.o r.recs).length = nf := by rw [hfr, hnf]
        have hn6 : nf ≤ 6 := by unfold freeF at hff; omega
        have hn0 : 0 < nf := by rw [hnf]; simp
        have HFR := Lib.hid (show w2.ownsRow W1.heap.size 3 1 (.slice (some ⟨gf, 0, none⟩) nf cf) nf (ints (l :: fs)) by have := HOF.out; rw [hff, hfr] at this; exact this)
        rw [← hnf]
        have hfz : ((nf : Int) == 0) = false := by simp; omega
        have i0f : (0 : Int) < (nf : Int) := by omega
        have i0 : (0 : Int) < (r.back.length : Int) := by omega
        have hsb := HRB.out.ok.slcB
        obtain ⟨b0, off0, d0, hA0, -, -, -, hx0, e0, e1⟩ := hsb.callsAt (k := 0) hwl
        rw [HW0.out] at hx0
        injection hx0 with hx0
        injection hA0 with hA0
        injection hA0 with hA1 hA2
        subst hA1 hA2 hx0
        simp only [Nat.zero_add, Nat.zero_mul] at e0 e1
        clear hbk hfr hnf hln ho6 hff hsb
        go_upto_region 8 with (go_at_call 105; refine (l6Talks_any lo w2.heap.size r.recs.length v.cR (some ⟨v.gR, 0, none⟩) r.recs op w2 HSR.out (by omega)).mono ?_; rintro x w9 ⟨rfl, hww⟩; obtain rfl := hww.symm)
        clear k0 k1 k2 k3 k4 k5 k7 htk
        go_upto_region 9 with fail
        obtain ⟨gc, hgc⟩ : ∃ y, y = w2.heap.size := ⟨_, rfl⟩
        have HGC := Lib.hid hgc
        rw [← hgc]
        obtain ⟨W3, hW3⟩ : ∃ y, y = w2.alloc (callO c) := ⟨_, rfl⟩
        rw [← hW3]
        have HA3 := Lib.hid (show RoomAt w W3 lo gb 2 v v r by rw [hW3]; exact HRB.out.alloc _)
        have HKR3 := Lib.hid (show W3.heap[gb + 1]? = some roomZ by rw [hW3]; exact blk_alloc HKR2.out _)
        have HKC3 := Lib.hid (show W3.heap[gc]? = some (callO c) by rw [hW3]; exact heap_new' _ _ hgc)
        have HFR3 := Lib.hid (show W3.ownsRow W1.heap.size 3 1 (.slice (some ⟨gf, 0, none⟩) nf cf) nf (ints (l :: fs)) by rw [hW3]; exact row_keep HFR.out (fun b hb => Below.heap_alloc _ _ b hb))
        clear hW3 e0 e1 k6 hgc
        have hlt := HL.out
        have hgf1 : gb + 2 ≤ gf := by have := HGF.out; have := HZ1.out; omega
        have hgf2 : gf < gc := by have := HGF.out; have := HGC.out; omega
        have HSB3 := Lib.hid HA3.out.ok.slcB
        have hnb := hs.nb
        have k := blk_cell HA3.out.blk
        have k0 := k 0
        have k1 := k 1
        have k2 := k 2
        have k3 := k 3
        have k4 := k 4
        have k5 := k 5
        have k6 := k 6
        have k7 := k 7
        clear k
        have q := blk_cell HKC3.out
        have q0 := q 0
        have q1 := q 1
        clear q
        have kf := blk_frozen' HA3.out.blk
        go_upto_region 10 with (go_at_call 106; refine (l6Without_any lo W3.heap.size r.back.length v.cB (some ⟨v.gB, 0, none⟩) r.back c.c W3 HSB3.out (by omega)).mono ?_; rintro x w5 ⟨_, rfl, g5, c5, rfl, hown, b5⟩; have HO5 := Lib.hid hown; have HB5 := Lib.hid b5; have kx := (blk_below b5 HA3.out.blk).1; have kx6 := blk_cell kx 6; have kxf := blk_frozen' kx; clear hown b5 kx)
        obtain ⟨W4, hW4⟩ : ∃ y, y = w5.setCell ⟨gb, 6, none⟩ (.slice (some ⟨g5, 0, none⟩) (withoutF r.back c.c).length c5) := ⟨_, rfl⟩
        have HA4 := Lib.hid (show RoomAt w W4 lo gb 2 v { v with gB := g5, cB := c5 } { r with back := withoutF r.back c.c } by rw [hW4]; exact HA3.out.setB HB5.out HO5.out rfl)
        have HKR4 := Lib.hid (show W4.heap[gb + 1]? = some roomZ by rw [hW4]; exact (Below.heap_setCell w5 _ _ (gb + 1) (by show gb + 1 ≠ gb; omega)).trans (blk_below HB5.out HKR3.out).1)
        have HKC4 := Lib.hid (show W4.heap[gc]? = some (callO c) by rw [hW4]; exact (Below.heap_setCell w5 _ _ gc (by show gc ≠ gb; omega)).trans (blk_below HB5.out HKC3.out).1)
        have HFR4 := Lib.hid (show W4.ownsRow W1.heap.size 3 1 (.slice (some ⟨gf, 0, none⟩) nf cf) nf (ints (l :: fs)) by rw [hW4]; exact row_keep' HFR3.out ((Below.heap_setCell w5 _ _ gf (by show gf ≠ gb; omega)).trans (HB5.out.block gf (HFR3.out.lt gf rfl).2)))
        rw [← hW4]
        clear hW4 kx6 kxf kf q0 q1 k0 k1 k2 k3 k4 k5 k6 k7
        obtain ⟨v1, hv1⟩ : ∃ y : RoomV, y = { v with gB := g5, cB := c5 } := ⟨_, rfl⟩
        obtain ⟨r1, hr1⟩ : ∃ y : RoomD, y = { r with back := withoutF r.back c.c } := ⟨_, rfl⟩
        have hvR : v1.gR = v.gR := by rw [hv1]
        have hvR2 : v1.gR < gb := by rw [hvR]; exact hlt.1
        have hn4 : r1.recs.length ≤ 1000 := by rw [hr1]; exact hs.nr
        rw [← hv1, ← hr1] at HA4
        replace HKN := Lib.hid (show returnsF r op = ({ r1 with recs := r1.recs ++ [⟨c.c, l, op, r1.clk, r1.clk, -1, openB⟩] }, [99, 97, 108, 108, 32] ++ numT c.c) by rw [HKN.out, hr1])
        clear hv1 hr1 hvR
        have k := blk_cell HA4.out.blk
        have k0 := k 0
        have k1 := k 1
        have k2 := k 2
        have k3 := k 3
        have k4 := k 4
        have k5 := k 5
        have k6 := k 6
        have k7 := k 7
        clear k
        have q0 := blk_cell HKC4.out 0
        have hf0 : W4.cell? ⟨gf, 0, none⟩ = some (.int .i64 l) := HFR4.out.cellAt 0 (by omega)
        have zsz : gc < W4.heap.size := blk_lt HKC4.out
        go_cut [] from 38 to 53 (fun wx => ∃ g1 c1, RoomAt w wx lo gb 2 v { v1 with gR := g1, cR := c1 } { r1 with recs := r1.recs ++ [⟨c.c, l, op, r1.clk, r1.clk, -1, openB⟩] } ∧ wx.heap[gc]? = some (callO c) ∧ wx.heap[gb + 1]? = some roomZ)
        case first =>
          obtain ⟨i0, hi0, hz0, hz1, hz2⟩ := info_parts info_rec
          have HI := Lib.hid hi0
          clear hi0
          have kB : ∀ o : Obj, (W4.alloc o).cell? ⟨gb, 4, none⟩ = some (v1.sR r1) := fun o => cell_alloc k4 o
          have hgbz : gb < W4.heap.size := by omega
          have S0 : W4.cell? ⟨gb, 3, none⟩ = some (.int .i64 r1.clk) ∧ W4.cell? ⟨gc, 0, none⟩ = some (.int .i64 c.c) ∧ W4.cell? ⟨gf, 0, none⟩ = some (.int .i64 l) := ⟨k3, q0, hf0⟩
          have HS0 := Lib.hid S0
          clear S0
          obtain ⟨g1, c1, w3, hap, hown1, hgr1, B1, hat1⟩ := run_app2 (P := Try.prog) (W4.alloc (.cells #[.int .i64 c.c, .int .i64 l, .int .i64 op, .int .i64 r1.clk, .int .i64 r1.clk, .int .i64 (-1), .string openB] 50)).drew 25 25 lo 50 i0 (.agg #[.int .i64 0, .int .i64 0, .int .i64 0, .int .i64 0, .int .i64 0, .int .i64 0, .string ⟨#[]⟩]) 7 64 Try.underlying25 HI.out hz0 hz1 hz2 rfl (by decide) v1.gR v1.cR r1.recs.length (recs r1.recs) (row_keep HA4.out.ok.rc (fun b hb => Below.heap_alloc _ _ b hb)) ⟨W4.heap.size, 0, none⟩ 1 1 (RecD.cells ⟨c.c, l, op, r1.clk, r1.clk, -1, openB⟩) rfl (World.news_of_block (cs := (RecD.cells ⟨c.c, l, op, r1.clk, r1.clk, -1, openB⟩).toArray) (heap_alloc_new _ _)) (by intro u hu; simp [RecD.cells] at hu; rcases hu with rfl | rfl | rfl | rfl | rfl | rfl | rfl <;> rfl) (by unfold maxLen; omega) (by omega) (by have := HA4.out.lob; simp; omega)
          have HG1 := Lib.hid hgr1
          have HOW1 := Lib.hid hown1
          have HAT1 := Lib.hid hat1
          have kx := (blk_grown6 hgr1 (blk_alloc HA4.out.blk _) (by omega)).1
          have kx4 := blk_cell kx 4
          have kxf := blk_frozen' kx
          clear hown1 hgr1 B1 hat1 kx
          refine wp_RU10 W4 w3 gb gc gf v1.gR r1.recs.length v1.cR g1 c1 _ _ c.c l op r1.clk rfl rfl rfl rfl rfl k3 k4 q0 hf0 (by omega) hap kx4 (kxf _) rfl ?_
          clear hap kx4 kxf
          rw [Go.Mt.fillT_L, opsRU10_dst]
          simp only [Go.Mt.fillL, List.set_cons_zero, List.set_cons_succ, fRU10, List.getD_cons_zero, List.getD_cons_succ]
          go_wp2_with fail
          go_meet
          refine ⟨g1, c1, ((HA4.out.alloc _).drew).appR HG1.out HOW1.out rfl HAT1.out, ?_, ?_⟩
          · exact (Below.heap_setCell w3 _ _ gc (by show gc ≠ gb; omega)).trans (blk_grown6 HG1.out (blk_drew (blk_alloc HKC4.out _)) (by omega)).1
          · exact (Below.heap_setCell w3 _ _ (gb + 1) (by show gb + 1 ≠ gb; omega)).trans (blk_grown6 HG1.out (blk_drew (blk_alloc HKR4.out _)) (by omega)).1
        case rest =>
          obtain ⟨g1, c1, ha1, hkc, hkr⟩ := hcut
          clear k0 k1 k2 k3 k4 k5 k6 k7 q0 hf0 zsz
          obtain ⟨W5, hW5⟩ : ∃ y, y = wc := ⟨_, rfl⟩
          have HKC5 := Lib.hid (show W5.heap[gc]? = some (callO c) by rw [hW5]; exact hkc)
          have HKR5 := Lib.hid (show W5.heap[gb + 1]? = some roomZ by rw [hW5]; exact hkr)
          have HA5 := Lib.hid (show RoomAt w W5 lo gb 2 v { v1 with gR := g1, cR := c1 } { r1 with recs := r1.recs ++ [⟨c.c, l, op, r1.clk, r1.clk, -1, openB⟩] } by rw [hW5]; exact ha1)
          clear ha1 hkc hkr
          rw [← hW5]
          clear hW5
          obtain ⟨v5, hv5⟩ : ∃ y : RoomV, y = { v1 with gR := g1, cR := c1 } := ⟨_, rfl⟩
          obtain ⟨r5, hr5⟩ : ∃ y : RoomD, y = { r1 with recs := r1.recs ++ [⟨c.c, l, op, r1.clk, r1.clk, -1, openB⟩] } := ⟨_, rfl⟩
          rw [← hv5, ← hr5] at HA5
          rw [← hr5] at HKN
          clear hv5 hr5
          obtain ⟨m, hm⟩ : ∃ m : Nat, c.c = (m : Int) := ⟨c.c.toNat, by omega⟩
          have hm6 : m ≤ 100000000 := by omega
          have hll : (Lib.itoa (m : Int)).length ≤ 20 := by rw [Lib.itoa_nonneg]; exact dec_len (by omega)
          have k := blk_cell HA5.out.blk
          have k0 := k 0
          have k1 := k 1
          have k2 := k 2
          have k3 := k 3
          have k4 := k 4
          have k5 := k 5
          have k6 := k 6
          have k7 := k 7
          clear k
          have q0 := blk_cell HKC5.out 0
          rw [hm] at q0 HKN
          clear hm
          go_wp2_with fail
          go_region_with (go_at_call 104; refine (l11Dec_any m hm6 _).mono ?_; rintro x w6 ⟨rfl, hb6⟩; have hb6' : Below W5.heap.size W5 w6 := ⟨hb6.os, hb6.tape, hb6.output, hb6.size, hb6.block⟩; have HB6 := Lib.hid hb6'; have k := blk_cell (blk_below hb6' HA5.out.blk).1; have r0 := blk_frozen' (blk_below hb6' HKR5.out).1; have z := blk_cell (blk_below hb6' HKR5.out).1; have k0 := k 0; have k1 := k 1; have k2 := k 2; have k3 := k 3; have k4 := k 4; have k5 := k 5; have k6 := k 6; have k7 := k 7; have z0 := z 0; have z1 := z 1; have z2 := z 2; have z3 := z 3; have z4 := z 4; have z5 := z 5; have z6 := z 6; have z7 := z 7; clear k z hb6 hb6')
          all_goals
            go_wp2_with fail
            have HA6 := HA5.out.keep HB6.out
            have HKR6 := (blk_below HB6.out HKR5.out).1
            have er := blk_cell (set8_blk (a0 := .int .i64 (r5).o.ln) (a1 := .int .i64 (r5).o.op) (a2 := .int .i64 (r5).o.pt) (a3 := .int .i64 (r5).clk) (a4 := (v5).sR (r5)) (a5 := (v5).sW (r5)) (a6 := (v5).sB (r5)) (a7 := (v5).sL (r5)) HKR6)
            refine bodyPost_ret (v := .tuple #[.agg (roomA (v5) (r5)), .string ⟨([99, 97, 108, 108, 32] ++ numT (m : Int) : List UInt8).toArray⟩]) ?_ rfl ?_
            · unfold set8 at er
              simp [results, Try.results97, go_sem, er, numT, bytes_app]
            · rw [HKN.out]
              obtain ⟨d1, d2, d3⟩ := HA6.done (b := gb + 1) (by omega)
              exact ⟨v5, rfl, d1, d2, d3⟩
end Go.Proofs.Ytjcpjijihajopaa
namespace Go.Proofs.Ytjcpjijihajopaa
open Go.RowKit
set_option linter.unusedVariables false
set_option maxHeartbeats 8000000 in
set_option maxRecDepth 20000 in
theorem l6Hangs_any (lo : Nat) (v : RoomV) (r : RoomD) (call : Int) (w : World) (h : RoomOk w lo v r) (hs : RoomSmall r) (hlo : lo ≤ w.heap.size) :
    Calls Try.prog 98 #[.agg (roomA v r), .int .i64 call] w (StepSays lo v w (hangsF r call)) := by
  obtain ⟨gb, hgb⟩ : ∃ g, g = w.heap.size := ⟨_, rfl⟩
  have hl := h.lts
  obtain ⟨O, hO⟩ : ∃ O : Obj, O = .cells (roomA v r) 121 := ⟨_, rfl⟩
  obtain ⟨Z, hZ⟩ : ∃ Z : Obj, Z = roomZ := ⟨_, rfl⟩
  have hk0 : ((w.alloc O).alloc Z).heap[gb]? = some (roomO v r) := by rw [hO, hgb]; exact blk_alloc (heap_alloc_new _ _) _
  have hk1 : ((w.alloc O).alloc Z).heap[gb + 1]? = some roomZ := by rw [← hZ]; exact heap_new' _ _ (by rw [hgb]; simp)
  have hz1 : ((w.alloc O).alloc Z).heap.size = gb + 2 := by rw [hgb]; simp
  have HRA := Lib.hid (show RoomAt w ((w.alloc O).alloc Z) lo gb 2 v v r from ⟨(h.alloc O).alloc Z, Turn.of_below v (below_al (below_al (Below.refl _ _) _) _), Moved.refl _ _, hgb, hk0, by rw [hz1]; exact Nat.le_refl _, by omega, .inl (by omega), .inl (by omega), .inl (by omega), .inl (by omega), by omega⟩)
  have HZ1 := Lib.hid hz1
  have HKR := Lib.hid hk1
  have HO := Lib.hid hO
  have HZ := Lib.hid (show Z = .cells #[.int .i64 0, .int .i64 0, .int .i64 0, .int .i64 0, .slice none 0 0, .slice none 0 0, .slice none 0 0, .slice none 0 0] 121 from hZ)
  have HGB := Lib.hid hgb
  have HL := Lib.hid (show v.gR < gb ∧ v.gW < gb ∧ v.gB < gb ∧ v.gL < gb by omega)
  clear hO hZ hgb hk0 hk1 hz1 h hl
  go_enter Try.func98, Try.ntmps98
  go_upto_region 1 with fail
  rw [← HO.out, ← HZ.out, ← HGB.out]
  obtain ⟨W1, hW1⟩ : ∃ y, y = (w.alloc O).alloc Z := ⟨_, rfl⟩
  rw [← hW1] at HRA HKR HZ1 ⊢
  clear hW1
  have k := blk_cell HRA.out.blk
  have k0 := k 0
  have k1 := k 1
  have k2 := k 2
  have k3 := k 3
  have k4 := k 4
  have k5 := k 5
  have k6 := k 6
  have k7 := k 7
  clear k
  have hn1 := hs.nr
  have hnw := hs.nw
  have hnb := hs.nb
  have HSR := Lib.hid HRA.out.ok.slcR
  have HSB := Lib.hid HRA.out.ok.slcB
  have hgR1 : gb + 1 ≠ v.gR := by have := HL.out; omega
  have hgB1 : gb + 1 ≠ v.gB := by have := HL.out; omega
  have z := blk_cell HKR.out
  have z0 := z 0
  have z1 := z 1
  have z2 := z 2
  have z3 := z 3
  have z4 := z 4
  have z5 := z 5
  have z6 := z 6
  have z7 := z 7
  clear z
  have r0 := blk_frozen' HKR.out
  rcases hoi : openAt r.recs call with _ | i
  · have HOI := Lib.hid (posI_none hoi)
    rcases hfi : findC6 r.back call with _ | j
    · have HFI := Lib.hid (posI_none hfi)
      have HKN := Lib.hid (show hangsF r call = (r, [103, 111, 110, 101]) by unfold hangsF; rw [hoi]; simp [hfi])
      clear hoi hfi
      go_upto_region 9 with (first | (go_at_call 101; refine (l6Open_any lo W1.heap.size r.recs.length v.cR (some ⟨v.gR, 0, none⟩) r.recs call W1 HSR.out (by omega)).mono ?_; rintro x w9 ⟨rfl, hww⟩; obtain rfl := hww.symm; rw [HOI.out]) | (go_at_call 102; refine (l6Find_any lo W1.heap.size r.back.length v.cB (some ⟨v.gB, 0, none⟩) r.back call W1 HSB.out (by omega)).mono ?_; rintro x w9 ⟨rfl, hww⟩; obtain rfl := hww.symm; rw [HFI.out]))
      clear k0 k1 k2 k3 k4 k5 k6 k7 z0 z1 z2 z3 z4 z5 z6 z7 r0
      have k := blk_cell HRA.out.blk
      have k0 := k 0
      have k1 := k 1
      have k2 := k 2
      have k3 := k 3
      have k4 := k 4
      have k5 := k 5
      have k6 := k 6
      have k7 := k 7
      clear k
      have z := blk_cell HKR.out
      have z0 := z 0
      have z1 := z 1
      have z2 := z 2
      have z3 := z 3
      have z4 := z 4
      have z5 := z 5
      have z6 := z 6
      have z7 := z 7
      clear z
      have r0 := blk_frozen' HKR.out
      go_wp2_with fail
      have er := blk_cell (set8_blk (a0 := .int .i64 (r).o.ln) (a1 := .int .i64 (r).o.op) (a2 := .int .i64 (r).o.pt) (a3 := .int .i64 (r).clk) (a4 := (v).sR (r)) (a5 := (v).sW (r)) (a6 := (v).sB (r)) (a7 := (v).sL (r)) HKR.out)
      refine bodyPost_ret (v := .tuple #[.agg (roomA (v) (r)), .string ⟨([103, 111, 110, 101] : List UInt8).toArray⟩]) ?_ rfl ?_
      · unfold set8 at er
        simp [results, Try.results98, go_sem, er]
      · rw [HKN.out]
        obtain ⟨d1, d2, d3⟩ := HRA.out.done (b := gb + 1) (by omega)
        exact ⟨v, rfl, d1, d2, d3⟩
    · have HFI := Lib.hid (posI_some hfi)
      have hj0 : (0 : Int) ≤ (j : Int) := by omega
      have HKN := Lib.hid (show hangsF r call = ({ r with back := withoutF r.back call }, [111, 102, 102]) by unfold hangsF; rw [hoi]; simp [hfi])
      clear hoi hfi
      go_upto_region 7 with (first | (go_at_call 101; refine (l6Open_any lo W1.heap.size r.recs.length v.cR (some ⟨v.gR, 0, none⟩) r.recs call W1 HSR.out (by omega)).mono ?_; rintro x w9 ⟨rfl, hww⟩; obtain rfl := hww.symm; rw [HOI.out]) | (go_at_call 102; refine (l6Find_any lo W1.heap.size r.back.length v.cB (some ⟨v.gB, 0, none⟩) r.back call W1 HSB.out (by omega)).mono ?_; rintro x w9 ⟨rfl, hww⟩; obtain rfl := hww.symm; rw [HFI.out]))
      have kf := blk_frozen' HRA.out.blk
      go_upto_region 8 with (go_at_call 106; refine (l6Without_any lo W1.heap.size r.back.length v.cB (some ⟨v.gB, 0, none⟩) r.back call W1 HSB.out (by omega)).mono ?_; rintro x w5 ⟨_, rfl, g5, c5, rfl, hown, b5⟩; have HO5 := Lib.hid hown; have HB5 := Lib.hid b5; have kx := (blk_below b5 HRA.out.blk).1; have kx6 := blk_cell kx 6; have kxf := blk_frozen' kx; clear hown b5 kx)
      obtain ⟨W4, hW4⟩ : ∃ y, y = w5.setCell ⟨gb, 6, none⟩ (.slice (some ⟨g5, 0, none⟩) (withoutF r.back call).length c5) := ⟨_, rfl⟩
      have HA4 := Lib.hid (show RoomAt w W4 lo gb 2 v { v with gB := g5, cB := c5 } { r with back := withoutF r.back call } by rw [hW4]; exact HRA.out.setB HB5.out HO5.out rfl)
      have HKR4 := Lib.hid (show W4.heap[gb + 1]? = some roomZ by rw [hW4]; exact (Below.heap_setCell w5 _ _ (gb + 1) (by show gb + 1 ≠ gb; omega)).trans (blk_below HB5.out HKR.out).1)
      rw [← hW4]
      clear hW4 kx6 kxf kf k0 k1 k2 k3 k4 k5 k6 k7 z0 z1 z2 z3 z4 z5 z6 z7 r0
      obtain ⟨v5, hv5⟩ : ∃ y : RoomV, y = { v with gB := g5, cB := c5 } := ⟨_, rfl⟩
      obtain ⟨r5, hr5⟩ : ∃ y : RoomD, y = { r with back := withoutF r.back call } := ⟨_, rfl⟩
      rw [← hv5, ← hr5] at HA4
      rw [← hr5] at HKN
      clear hv5 hr5
      have k := blk_cell HA4.out.blk
      have k0 := k 0
      have k1 := k 1
      have k2 := k 2
      have k3 := k 3
      have k4 := k 4
      have k5 := k 5
      have k6 := k 6
      have k7 := k 7
      clear k
      have z := blk_cell HKR4.out
      have z0 := z 0
      have z1 := z 1
      have z2 := z 2
      have z3 := z 3
      have z4 := z 4
      have z5 := z 5
      have z6 := z 6
      have z7 := z 7
      clear z
      have r0 := blk_frozen' HKR4.out
      go_wp2_with fail
      have er := blk_cell (set8_blk (a0 := .int .i64 (r5).o.ln) (a1 := .int .i64 (r5).o.op) (a2 := .int .i64 (r5).o.pt) (a3 := .int .i64 (r5).clk) (a4 := (v5).sR (r5)) (a5 := (v5).sW (r5)) (a6 := (v5).sB (r5)) (a7 := (v5).sL (r5)) HKR4.out)
      refine bodyPost_ret (v := .tuple #[.agg (roomA (v5) (r5)), .string ⟨([111, 102, 102] : List UInt8).toArray⟩]) ?_ rfl ?_
      · unfold set8 at er
        simp [results, Try.results98, go_sem, er]
      · rw [HKN.out]
        obtain ⟨d1, d2, d3⟩ := HA4.out.done (b := gb + 1) (by omega)
        exact ⟨v5, rfl, d1, d2, d3⟩
  · have HOI := Lib.hid (posI_some hoi)
    obtain ⟨d, hd, -, -⟩ := openAt_get hoi
    have hi := (List.getElem?_eq_some_iff.1 hd).1
    have hi0 : (0 : Int) ≤ (i : Int) := by omega
    have hi1 : (i : Int) < (r.recs.length : Int) := by omega
    have hop : opAt r.recs i = d.o := by unfold opAt; rw [hd]
    obtain ⟨c0, c1, c2, c3, c4, c5, c6⟩ := HRA.out.ok.recAt hd
    have HD := Lib.hid hd
    by_cases hpo : 0 < d.o
    · have HKN := Lib.hid (show hangsF r call = (endsF r i doneE, [100, 111, 110, 101]) by unfold hangsF; rw [hoi]; simp only; rw [if_pos (by rw [hop]; exact hpo)])
      clear hoi hd hop
      go_upto_region 3 with (go_at_call 101; refine (l6Open_any lo W1.heap.size r.recs.length v.cR (some ⟨v.gR, 0, none⟩) r.recs call W1 HSR.out (by omega)).mono ?_; rintro x w9 ⟨rfl, hww⟩; obtain rfl := hww.symm; rw [HOI.out])
      clear c0 c1 c2 c3 c4 c5 c6 z0 z1 z2 z3 z4 z5 z6 z7 r0
      go_wp2_with (go_at_call 107; refine (l6Ends_any lo i v r d doneE W1 HRA.out.ok HD.out (by omega) (by omega) (by have := HRA.out.lob; have := HZ1.out; omega)).mono ?_; rintro x w5 ⟨g5, c5, rfl, hok, htn, hg5⟩; obtain ⟨v5, hv5⟩ : ∃ y : RoomV, y = { v with gW := g5, cW := c5 } := ⟨_, rfl⟩; obtain ⟨r5, hr5⟩ : ∃ y : RoomD, y = endsF r i doneE := ⟨_, rfl⟩; rw [← hv5, ← hr5] at hok ⊢; have HV5 := Lib.hid hv5; have HR5 := Lib.hid hr5; have HOK := Lib.hid hok; have HTN := Lib.hid htn; have HG5 := Lib.hid hg5; have kr := htn.blk HKR.out hgR1 hgB1; have HKR5 := Lib.hid kr; have z := blk_cell kr; have r0 := blk_frozen' kr; have z0 := z 0; have z1 := z 1; have z2 := z 2; have z3 := z 3; have z4 := z 4; have z5 := z 5; have z6 := z 6; have z7 := z 7; clear hok htn hg5 kr z hv5 hr5)
      have hv5 := HV5.out
      have hr5 := HR5.out
      rw [← hr5] at HKN
      have er := blk_cell (set8_blk (a0 := .int .i64 (r5).o.ln) (a1 := .int .i64 (r5).o.op) (a2 := .int .i64 (r5).o.pt) (a3 := .int .i64 (r5).clk) (a4 := (v5).sR (r5)) (a5 := (v5).sW (r5)) (a6 := (v5).sB (r5)) (a7 := (v5).sL (r5)) HKR5.out)
      refine bodyPost_ret (v := .tuple #[.agg (roomA (v5) (r5)), .string ⟨([100, 111, 110, 101] : List UInt8).toArray⟩]) ?_ rfl ?_
      · unfold set8 at er
        simp [results, Try.results98, go_sem, er]
      · rw [HKN.out]
        have hl := HL.out
        have hz := HZ1.out
        have hg := HG5.out
        have hgb := HGB.out
        exact ⟨v5, rfl, HOK.out.set8 (by rw [hv5]; simp only; omega), (HRA.out.turn.same HTN.out).set8 (by omega), by rw [hv5]; exact ⟨.inl rfl, .inr (by simp only; omega), .inl rfl, rfl⟩⟩
    · have HKN := Lib.hid (show hangsF r call = (endsF r i leftE, [108, 101, 102, 116]) by unfold hangsF; rw [hoi]; simp only; rw [if_neg (by rw [hop]; exact hpo)])
      clear hoi hd hop
      go_upto_region 5 with (go_at_call 101; refine (l6Open_any lo W1.heap.size r.recs.length v.cR (some ⟨v.gR, 0, none⟩) r.recs call W1 HSR.out (by omega)).mono ?_; rintro x w9 ⟨rfl, hww⟩; obtain rfl := hww.symm; rw [HOI.out])
      clear c0 c1 c2 c3 c4 c5 c6 z0 z1 z2 z3 z4 z5 z6 z7 r0
      go_wp2_with (go_at_call 107; refine (l6Ends_any lo i v r d leftE W1 HRA.out.ok HD.out (by omega) (by omega) (by have := HRA.out.lob; have := HZ1.out; omega)).mono ?_; rintro x w5 ⟨g5, c5, rfl, hok, htn, hg5⟩; obtain ⟨v5, hv5⟩ : ∃ y : RoomV, y = { v with gW := g5, cW := c5 } := ⟨_, rfl⟩; obtain ⟨r5, hr5⟩ : ∃ y : RoomD, y = endsF r i leftE := ⟨_, rfl⟩; rw [← hv5, ← hr5] at hok ⊢; have HV5 := Lib.hid hv5; have HR5 := Lib.hid hr5; have HOK := Lib.hid hok; have HTN := Lib.hid htn; have HG5 := Lib.hid hg5; have kr := htn.blk HKR.out hgR1 hgB1; have HKR5 := Lib.hid kr; have z := blk_cell kr; have r0 := blk_frozen' kr; have z0 := z 0; have z1 := z 1; have z2 := z 2; have z3 := z 3; have z4 := z 4; have z5 := z 5; have z6 := z 6; have z7 := z 7; clear hok htn hg5 kr z hv5 hr5)
      have hv5 := HV5.out
      have hr5 := HR5.out
      rw [← hr5] at HKN
      have er := blk_cell (set8_blk (a0 := .int .i64 (r5).o.ln) (a1 := .int .i64 (r5).o.op) (a2 := .int .i64 (r5).o.pt) (a3 := .int .i64 (r5).clk) (a4 := (v5).sR (r5)) (a5 := (v5).sW (r5)) (a6 := (v5).sB (r5)) (a7 := (v5).sL (r5)) HKR5.out)
      refine bodyPost_ret (v := .tuple #[.agg (roomA (v5) (r5)), .string ⟨([108, 101, 102, 116] : List UInt8).toArray⟩]) ?_ rfl ?_
      · unfold set8 at er
        simp [results, Try.results98, go_sem, er]
      · rw [HKN.out]
        have hl := HL.out
        have hz := HZ1.out
        have hg := HG5.out
        have hgb := HGB.out
        exact ⟨v5, rfl, HOK.out.set8 (by rw [hv5]; simp only; omega), (HRA.out.turn.same HTN.out).set8 (by omega), by rw [hv5]; exact ⟨.inl rfl, .inr (by simp only; omega), .inl rfl, rfl⟩⟩
end Go.Proofs.Ytjcpjijihajopaa
namespace Go.Proofs.Ytjcpjijihajopaa
open Go.RowKit
set_option linter.unusedVariables false
def tiredTo (r : RoomD) (m : Int) (k : Nat) : RoomD × List UInt8 := (r.wait.take k).foldl tireF ({ r with clk := r.clk + m }, [97, 116, 32] ++ numT (r.clk + m))
theorem tiredTo_succ {r : RoomD} {m : Int} {k : Nat} {x : CallD} (h : r.wait[k]? = some x) : tiredTo r m (k + 1) = tireF (tiredTo r m k) x := by
  unfold tiredTo
  rw [List.take_add_one, h, List.foldl_append]; rfl
theorem tiredTo_all (r : RoomD) (m : Int) : tiredTo r m r.wait.length = waitsF r m := by
  unfold tiredTo waitsF
  rw [List.take_of_length_le (Nat.le_refl _)]
theorem openAt_isSome (rs : List RecD) (c : Int) : (openAt rs c).isSome = rs.any (openP c) := by unfold openAt; exact List.findIdx?_isSome
theorem openAt_other {rs : List RecD} {i : Nat} {d : RecD} {f : RecD → RecD} {c : Int} (hd : rs[i]? = some d) (hc : d.c ≠ c) (h : (openAt rs c).isSome = true) : (openAt (rs.modify i f) c).isSome = true := by
  rw [openAt_isSome, List.any_eq_true] at *
  obtain ⟨x, hx, hp⟩ := h
  obtain ⟨j, hj, e⟩ := List.mem_iff_getElem.1 hx
  have hji : i ≠ j := by
    intro e2
    subst e2
    rw [List.getElem?_eq_getElem hj, e] at hd
    injection hd with hd
    unfold openP at hp
    simp at hp
    exact hc (hd ▸ hp.1)
  refine ⟨x, ?_, hp⟩
  refine List.mem_iff_getElem?.2 ⟨j, ?_⟩
  rw [List.getElem?_modify, List.getElem?_eq_getElem hj, e]
  simp [hji]
structure TiredOk (r : RoomD) (m : Int) (k : Nat) : Prop where
  nrec : (tiredTo r m k).1.recs.length = r.recs.length
  off : (tiredTo r m k).1.o = r.o
  clk : (tiredTo r m k).1.clk = r.clk + m
  nb : (tiredTo r m k).1.back.length ≤ r.back.length + k
  nw : (tiredTo r m k).1.wait.length ≤ r.wait.length
  txt : (tiredTo r m k).2.length ≤ 30 + 30 * k
  has : ∀ j x, k ≤ j → r.wait[j]? = some x → (openAt (tiredTo r m k).1.recs x.c).isSome = true
  fr : ∀ d ∈ (tiredTo r m k).1.recs, 0 ≤ d.f ∧ d.f ≤ 100000
theorem withoutF_len (xs : List CallD) (q : Int) : (withoutF xs q).length ≤ xs.length := List.length_filter_le _ _
theorem numT_len {c : Int} (h0 : 0 ≤ c) (h1 : c ≤ 1000000) : (numT c).length ≤ 20 := by
  obtain ⟨n, rfl⟩ : ∃ n : Nat, c = (n : Int) := ⟨c.toNat, by omega⟩
  unfold numT
  rw [Lib.itoa_nonneg]
  exact dec_len (by omega)
theorem tireF_some {bt : RoomD × List UInt8} {x : CallD} {i : Nat} {d : RecD} (hi : openAt bt.1.recs x.c = some i) (hd : bt.1.recs[i]? = some d) :
    tireF bt x = if bt.1.o.pt ≤ bt.1.clk - d.f then ({ endsF bt.1 i tiredE with back := bt.1.back ++ [x] }, bt.2 ++ [32] ++ numT x.c) else bt := by
  unfold tireF
  rw [hi]
  simp only
  rw [show fromAt bt.1.recs i = d.f by unfold fromAt; rw [hd]]
theorem tiredOk {r : RoomD} {m : Int} (hq : WaitsOk r) (hn : (r.wait.map CallD.c).Nodup) (hf : ∀ d ∈ r.recs, 0 ≤ d.f ∧ d.f ≤ 100000) (hc : 0 ≤ r.clk + m ∧ r.clk + m ≤ 1000000) : ∀ k, k ≤ r.wait.length → TiredOk r m k
  | 0, _ => ⟨rfl, rfl, rfl, Nat.le_refl _, Nat.le_refl _, by
      have := numT_len hc.1 hc.2
      show ([97, 116, 32] ++ numT (r.clk + m)).length ≤ _
      rw [List.length_append]
      simp only [List.length_cons, List.length_nil]
      omega, fun j x _ hx => hq.has x (List.mem_of_getElem? hx), hf⟩
  | k + 1, hk => by
    have T := tiredOk hq hn hf hc k (by omega)
    obtain ⟨x, hx⟩ : ∃ x, r.wait[k]? = some x := ⟨r.wait[k], List.getElem?_eq_getElem (by omega)⟩
    obtain ⟨i, hi⟩ := Option.isSome_iff_exists.1 (T.has k x (Nat.le_refl _) hx)
    obtain ⟨d, hd, hdc, -⟩ := openAt_get hi
    have e := tireF_some (bt := tiredTo r m k) hi hd
    have e1 := tiredTo_succ (m := m) hx
    rw [e] at e1
    have hxn := hq.num x (List.mem_of_getElem? hx)
    have hnt := numT_len (c := x.c) (by omega) (by omega)
    by_cases hp : (tiredTo r m k).1.o.pt ≤ (tiredTo r m k).1.clk - d.f
    · rw [if_pos hp] at e1
      refine ⟨?_, ?_, ?_, ?_, ?_, ?_, ?_, ?_⟩ <;> rw [e1]
      · show (List.modify _ _ _).length = _
        rw [List.length_modify]; exact T.nrec
      · exact T.off
      · exact T.clk
      · have := T.nb
        simp only [List.length_append, List.length_cons, List.length_nil]
        omega
      · exact Nat.le_trans (withoutF_len _ _) T.nw
      · have := T.txt
        simp only [List.length_append, List.length_cons, List.length_nil]
        omega
      · intro j y hj hy
        have hyc : d.c ≠ y.c := by
          intro e2
          rw [hdc] at e2
          have hjl := (List.getElem?_eq_some_iff.1 hy).1
          have hkl := (List.getElem?_eq_some_iff.1 hx).1
          have hne := (List.pairwise_iff_getElem.1 hn) k j (by rw [List.length_map]; exact hkl) (by rw [List.length_map]; exact hjl) (by omega)
          apply hne
          rw [List.getElem_map, List.getElem_map]
          rw [List.getElem?_eq_getElem hkl] at hx
          rw [List.getElem?_eq_getElem hjl] at hy
          injection hx with hx
          injection hy with hy
          rw [hx, hy, e2]
        exact openAt_other hd hyc (T.has j y (by omega) hy)
      · intro z hz
        obtain ⟨j, hj⟩ := List.mem_iff_getElem?.1 hz
        have hj' : (List.modify (tiredTo r m k).1.recs i fun d => { d with t := (tiredTo r m k).1.clk, e := tiredE })[j]? = some z := hj
        rw [List.getElem?_modify] at hj'
        rcases hrj : (tiredTo r m k).1.recs[j]? with _ | y
        · rw [hrj] at hj'; split at hj' <;> cases hj'
        · rw [hrj] at hj'
          have hy := T.fr y (List.mem_of_getElem? hrj)
          split at hj' <;> (simp at hj'; subst hj'; exact hy)
    · rw [if_neg hp] at e1
      exact ⟨by rw [e1]; exact T.nrec, by rw [e1]; exact T.off, by rw [e1]; exact T.clk, by rw [e1]; have := T.nb; omega, by rw [e1]; exact T.nw, by rw [e1]; have := T.txt; omega, by rw [e1]; exact fun j y hj hy => T.has j y (by omega) hy, by rw [e1]; exact T.fr⟩
section
variable {w0 w w' : World} {lo gb k : Nat} {v0 v v' : RoomV} {r r' : RoomD}
theorem RoomAt.setClk {c : Int} (h : RoomAt w0 w lo gb k v0 v r) : RoomAt w0 (w.setCell ⟨gb, 3, none⟩ (.int .i64 c)) lo gb k v0 v { r with clk := c } := by
  have aR := h.aR; have aW := h.aW; have aB := h.aB; have aL := h.aL
  have hba := h.base
  have t := h.turn
  have kp := h.kpos
  refine ⟨(h.ok.setCell (by omega)).clock c, ⟨t.os, t.tape, t.output, by rw [World.size_setCell]; exact t.size, fun y hy e1 e2 => (Below.heap_setCell w _ _ y (by show y ≠ gb; omega)).trans (t.block y hy e1 e2)⟩, h.moved, h.base, ?_, by rw [World.size_setCell]; exact h.size, h.kpos, aR, aW, aB, aL, h.lob⟩
  rw [blk_setCell h.blk]
  rfl
theorem RoomAt.whole {n : Nat} (h : RoomAt w0 w lo gb k v0 v r) (ho : RoomOk w' lo v' r') (t : Turn v w w') (m : Moved n v v') (hn : n = w.heap.size) :
    RoomAt w0 (set8 w' gb (.int .i64 r'.o.ln) (.int .i64 r'.o.op) (.int .i64 r'.o.pt) (.int .i64 r'.clk) (v'.sR r') (v'.sW r') (v'.sB r') (v'.sL r')) lo gb k v0 v' r' := by
  obtain ⟨_, t2, m2, hb⟩ := h.turned ho t m hn
  have aR := h.aR; have aW := h.aW; have aB := h.aB; have aL := h.aL
  have mr := m.r; have mw := m.w; have mb := m.b; have ml := m.l
  have sz := h.size
  have kp := h.kpos
  have hba := h.base
  have tz := t.size
  refine ⟨ho.set8 (by omega), t2.set8 (by omega), m2, h.base, set8_blk hb, by rw [set8_size]; omega, h.kpos, by omega, by omega, by omega, by omega, h.lob⟩
end
theorem blk_set8 {w : World} {b x : Nat} {o : Obj} {a0 a1 a2 a3 a4 a5 a6 a7 : Value} (h : w.heap[x]? = some o) (hx : x ≠ b) : (set8 w b a0 a1 a2 a3 a4 a5 a6 a7).heap[x]? = some o := (set8_other hx).trans h
set_option maxHeartbeats 16000000 in
set_option maxRecDepth 20000 in
theorem l6Waits_any (lo : Nat) (v : RoomV) (r : RoomD) (m : Int) (w : World) (h : RoomOk w lo v r) (hs : RoomSmall r) (hlo : lo ≤ w.heap.size) (hq : WaitsOk r) (hnd : (r.wait.map CallD.c).Nodup) (hfr : ∀ d ∈ r.recs, 0 ≤ d.f ∧ d.f ≤ 100000) (hm0 : 0 ≤ m) (hm1 : m ≤ 100000) :
    Calls Try.prog 99 #[.agg (roomA v r), .int .i64 m] w (StepSays lo v w (waitsF r m)) := by
  have hap := h.ap
  have HTK := Lib.hid (tiredOk (m := m) hq hnd hfr (by have := hs.clk; omega))
  have HQN := Lib.hid hq.num
  have hofp := (offB_parts hs.off).2.2.2.2
  clear hnd hfr hq
  obtain ⟨gb, hgb⟩ : ∃ g, g = w.heap.size := ⟨_, rfl⟩
  have hl := h.lts
  obtain ⟨O, hO⟩ : ∃ O : Obj, O = .cells (roomA v r) 121 := ⟨_, rfl⟩
  obtain ⟨Z, hZ⟩ : ∃ Z : Obj, Z = roomZ := ⟨_, rfl⟩
  have hk0 : ((w.alloc O).alloc Z).heap[gb]? = some (roomO v r) := by rw [hO, hgb]; exact blk_alloc (heap_alloc_new _ _) _
  have hk1 : ((w.alloc O).alloc Z).heap[gb + 1]? = some roomZ := by rw [← hZ]; exact heap_new' _ _ (by rw [hgb]; simp)
  have hz1 : ((w.alloc O).alloc Z).heap.size = gb + 2 := by rw [hgb]; simp
  have HRA := Lib.hid (show RoomAt w ((w.alloc O).alloc Z) lo gb 2 v v r from ⟨(h.alloc O).alloc Z, Turn.of_below v (below_al (below_al (Below.refl _ _) _) _), Moved.refl _ _, hgb, hk0, by rw [hz1]; exact Nat.le_refl _, by omega, .inl (by omega), .inl (by omega), .inl (by omega), .inl (by omega), by omega⟩)
  have HZ1 := Lib.hid hz1
  have HKR := Lib.hid hk1
  have HO := Lib.hid hO
  have HZ := Lib.hid (show Z = .cells #[.int .i64 0, .int .i64 0, .int .i64 0, .int .i64 0, .slice none 0 0, .slice none 0 0, .slice none 0 0, .slice none 0 0] 121 from hZ)
  have HGB := Lib.hid hgb
  have HL := Lib.hid (show v.gR < gb ∧ v.gW < gb ∧ v.gB < gb ∧ v.gL < gb by omega)
  clear hO hZ hgb hk0 hk1 hz1 h hl
  go_enter Try.func99, Try.ntmps99
  go_upto_region 1 with fail
  rw [← HO.out, ← HZ.out, ← HGB.out]
  obtain ⟨W1, hW1⟩ : ∃ y, y = (w.alloc O).alloc Z := ⟨_, rfl⟩
  rw [← hW1] at HRA HKR HZ1 ⊢
  clear hW1
  obtain ⟨n, hn⟩ : ∃ n, n = r.wait.length := ⟨_, rfl⟩
  have hnb := hs.nb
  have hnr := hs.nr
  have hnw : n ≤ 1000 := by rw [hn]; exact hs.nw
  have HNN := Lib.hid hn
  have hck := hs.clk
  obtain ⟨hck0, hck1⟩ := hck
  obtain ⟨ck, hck⟩ : ∃ c, c = r.clk := ⟨_, rfl⟩
  have HCK := Lib.hid hck
  rw [← hck] at hck0 hck1
  have k := blk_cell HRA.out.blk
  have k0 := k 0
  have k1 := k 1
  have k2 := k 2
  have k3 := k 3
  have k4 := k 4
  have k5 := k 5
  have k6 := k 6
  have k7 := k 7
  clear k
  have k3' : W1.cell? ⟨gb, 3, none⟩ = some (.int .i64 ck) := by rw [k3, HCK.out]; rfl
  have kf := blk_frozen' HRA.out.blk
  clear k3 hck hn
  have HRB := Lib.hid (show RoomAt w (W1.setCell ⟨gb, 3, none⟩ (.int .i64 (ck + m))) lo gb 2 v v { r with clk := ck + m } from HRA.out.setClk)
  go_upto_region 2 with fail
  obtain ⟨W2, hW2⟩ : ∃ y, y = W1.setCell ⟨gb, 3, none⟩ (.int .i64 (ck + m)) := ⟨_, rfl⟩
  rw [← hW2] at HRB ⊢
  have HKR2 := Lib.hid (show W2.heap[gb + 1]? = some roomZ by rw [hW2]; exact (Below.heap_setCell W1 _ _ (gb + 1) (by show gb + 1 ≠ gb; omega)).trans HKR.out)
  clear k0 k1 k2 k3' k4 k5 k6 k7 kf hW2
  obtain ⟨c2, hc2⟩ : ∃ c2 : Nat, ck + m = (c2 : Int) := ⟨(ck + m).toNat, by omega⟩
  have hc22 : c2 ≤ 100000000 := by omega
  have hll : (Lib.itoa (c2 : Int)).length ≤ 20 := by rw [Lib.itoa_nonneg]; exact dec_len (by omega)
  have HC2 := Lib.hid hc2
  have k3 := blk_cell HRB.out.blk 3
  have k3' : W2.cell? ⟨gb, 3, none⟩ = some (.int .i64 (c2 : Int)) := by rw [← hc2]; exact k3
  clear k3 hc2
  go_upto_region 3 with (go_at_call 104; refine (l11Dec_any c2 hc22 _).mono ?_; rintro x w3 ⟨rfl, hb3⟩; have HB3 := Lib.hid hb3; clear hb3)
  have HRC := Lib.hid (HRB.out.keep HB3.out)
  have HKR3 := Lib.hid (blk_below HB3.out HKR2.out).1
  have k5 := blk_cell HRC.out.blk 5
  have k5' : w3.cell? ⟨gb, 5, none⟩ = some (.slice (some ⟨v.gW, 0, none⟩) n v.cW) := by rw [k5, HNN.out]; rfl
  clear k5 k3'
  have HTX := Lib.hid (show (⟨([97, 116, 32] ++ Lib.itoa (c2 : Int) : List UInt8).toArray⟩ : ByteArray) = ⟨(tiredTo r m 0).2.toArray⟩ by show _ = (⟨([97, 116, 32] ++ numT (r.clk + m) : List UInt8).toArray⟩ : ByteArray); rw [← HCK.out, HC2.out]; rfl)
  have hltg := HL.out
  go_wp2_with fail
  go_loopw [6, 8] (fun t i wr => ∃ (k : Nat) (v1 : RoomV), k ≤ n ∧ i = .int .i64 k ∧ t = .string ⟨(tiredTo r m k).2.toArray⟩ ∧ RoomAt w wr lo gb 2 v v1 (tiredTo r m k).1 ∧ wr.heap[gb + 1]? = some roomZ ∧ wr.ownsRow lo 140 2 (.slice (some ⟨v.gW, 0, none⟩) n v.cW) n (calls r.wait)) (fun _ i _ => n - (intOf i).toNat)
  case atStart =>
    refine ⟨0, v, Nat.zero_le _, rfl, ?_, ?_, HKR3.out, ?_⟩
    · rw [← HTX.out]; congr 1
    · have e : (tiredTo r m 0).1 = { r with clk := ck + m } := by rw [HCK.out]; rfl
      rw [e]; exact HRC.out
    · have := HRC.out.ok.wt
      rw [HNN.out]; exact this
  case round =>
    obtain ⟨k, v1, hk, rfl, rfl, hat, hkr, hwt⟩ := hrel
    have T := HTK.out k (by have := HNN.out; omega)
    obtain ⟨r1, hr1⟩ : ∃ y, y = (tiredTo r m k).1 := ⟨_, rfl⟩
    obtain ⟨tx, htx⟩ : ∃ y, y = (tiredTo r m k).2 := ⟨_, rfl⟩
    have tnr := T.nrec
    have tnb := T.nb
    have tnw := T.nw
    have ttx := T.txt
    have tck := T.clk
    have tof := T.off
    have HTF := Lib.hid T.fr
    have HTH := Lib.hid T.has
    rw [← hr1] at hat tnr tnb tnw tck tof HTF HTH
    rw [← htx] at ttx ⊢
    have HR1 := Lib.hid hr1
    have HTXT := Lib.hid htx
    have HAT := Lib.hid hat
    have HKRR := Lib.hid hkr
    have HWT := Lib.hid hwt
    have hnr1 : r1.recs.length ≤ 1000 := by omega
    have hnb1 : r1.back.length ≤ 6000 := by omega
    have hnw1 : r1.wait.length ≤ 1000 := by have := hs.nw; omega
    have htx1 : tx.length ≤ 40000 := by omega
    have hgbz : gb + 2 ≤ wr.heap.size := hat.size
    have hmR := hat.moved.r
    have hmB := hat.moved.b
    have HC1 := Lib.hid tck
    have HO1 := Lib.hid tof
    clear T hr1 htx hat hkr hwt tnr tnb tnw ttx tck tof
    by_cases hlt : k < n
    · obtain ⟨bx, ox, x, hA, -, -, hxz, hxk, e0, e1⟩ := (row_slc HWT.out (by decide)).callsAt hlt
      injection hA with hA
      injection hA with hA1 hA2
      subst hA1 hA2
      simp only [Nat.zero_add] at e0 e1
      obtain ⟨i, hoi⟩ := Option.isSome_iff_exists.1 (HTH.out k x (Nat.le_refl _) hxk)
      obtain ⟨d, hd, hdc, -⟩ := openAt_get hoi
      have hxn := HQN.out x (List.mem_of_getElem? hxk)
      have hi := (List.getElem?_eq_some_iff.1 hd).1
      have hi0 : (0 : Int) ≤ (i : Int) := by omega
      have hi1 : (i : Int) < (r1.recs.length : Int) := by omega
      have i0 : (0 : Int) ≤ (k : Int) := by omega
      have i1 : (k : Int) < (n : Int) := by omega
      obtain ⟨hdf0, hdf1⟩ := HTF.out d (List.mem_of_getElem? hd)
      have HST := Lib.hid (show tiredTo r m (k + 1) = if r1.o.pt ≤ r1.clk - d.f then ({ endsF r1 i tiredE with back := r1.back ++ [x] }, tx ++ [32] ++ numT x.c) else (r1, tx) by
        rw [tiredTo_succ hxk, tireF_some (i := i) (d := d) (by rw [← HR1.out]; exact hoi) (by rw [← HR1.out]; exact hd), ← HR1.out, ← HTXT.out]; congr 1; rw [HR1.out, HTXT.out])
      have HOI := Lib.hid (posI_some hoi)
      have HD := Lib.hid hd
      have HXK := Lib.hid hxk
      obtain ⟨q, hqq⟩ : ∃ q, q = x.c := ⟨_, rfl⟩
      have HE := Lib.hid (fun nq : Nat => Calls.quiet_of (w := wr) (n := nq) ((l6Open_any lo wr.heap.size r1.recs.length v1.cR (some ⟨v1.gR, 0, none⟩) r1.recs x.c (wr.drewN nq) (have hs := HAT.out.ok.slcR; ⟨hs.len, hs.le, hs.cap, hs.at_⟩) (by omega)).mono fun e w' hh => by rw [HOI.out] at hh; exact ⟨hh.1, 0, hh.2⟩))
      obtain ⟨c0, c1, c2', c3, c4, c5, c6⟩ := HAT.out.ok.recAt hd
      clear hoi hd hdc hxk hqq
      have k := blk_cell HAT.out.blk
      have k0 := k 0
      have k1 := k 1
      have k2 := k 2
      have k3 := k 3
      have k4 := k 4
      have k5 := k 5
      have k6 := k 6
      have k7 := k 7
      clear k
      go_wp2_with fail
      go_quiet ((go_at_call 101; exact HE.out _))
      go_wp2_with fail
      obtain ⟨wq, hwq⟩ : ∃ y, y = wr.drewN nq := ⟨_, rfl⟩
      rw [← hwq]
      have HATQ := Lib.hid (show RoomAt w wq lo gb 2 v v1 r1 by rw [hwq]; exact HAT.out.keep ⟨rfl, rfl, rfl, Nat.le_refl _, fun _ _ => rfl⟩)
      have HKRQ := Lib.hid (show wq.heap[gb + 1]? = some roomZ by rw [hwq]; exact HKRR.out)
      have HWTQ := Lib.hid (show wq.ownsRow lo 140 2 (.slice (some ⟨v.gW, 0, none⟩) n v.cW) n (calls r.wait) by rw [hwq]; exact row_keep HWT.out (fun _ _ => rfl))
      replace e0 : wq.cell? ⟨v.gW, k * 2, none⟩ = some (.int .i64 x.c) := by rw [hwq]; exact e0
      replace e1 : wq.cell? ⟨v.gW, k * 2 + 1, none⟩ = some (.int .i64 x.p) := by rw [hwq]; exact e1
      have hxq : v.gW < wq.heap.size := by rw [hwq]; exact hxz
      have hgq : gb + 2 ≤ wq.heap.size := by rw [hwq]; exact hgbz
      clear c0 c1 c2' c3 c4 c5 c6 k0 k1 k2 k3 k4 k5 k6 k7 hwq
      obtain ⟨c0, c1, c2', c3, c4, c5, c6⟩ := HATQ.out.ok.recAt HD.out
      have k := blk_cell HATQ.out.blk
      have k0 := k 0
      have k1 := k 1
      have k2 := k 2
      have k3 := k 3
      have k4 := k 4
      have k5 := k 5
      have k6 := k 6
      have k7 := k 7
      clear k
      have hb0 : 0 ≤ r1.clk := by have := HC1.out; have := HCK.out; omega
      have hb1 : r1.clk ≤ 200000 := by have := HC1.out; have := HCK.out; omega
      have hb2 : 1 ≤ r1.o.pt := by rw [HO1.out]; exact hofp.1
      have hb3 : r1.o.pt ≤ 60 := by rw [HO1.out]; exact hofp.2
      by_cases hp : r1.o.pt ≤ r1.clk - d.f
      · replace HST := Lib.hid (show tiredTo r m (k + 1) = ({ endsF r1 i tiredE with back := r1.back ++ [x] }, tx ++ [32] ++ numT x.c) by rw [HST.out, if_pos hp])
        go_quiet (fail)
        go_upto_region 9 with fail
        obtain ⟨wz, hwz⟩ : ∃ y, y = wq.drewN nq := ⟨_, rfl⟩
        rw [← hwz]
        have HATZ := Lib.hid (show RoomAt w wz lo gb 2 v v1 r1 by rw [hwz]; exact HATQ.out.keep ⟨rfl, rfl, rfl, Nat.le_refl _, fun _ _ => rfl⟩)
        have HKRZ := Lib.hid (show wz.heap[gb + 1]? = some roomZ by rw [hwz]; exact HKRQ.out)
        have HWTZ := Lib.hid (show wz.ownsRow lo 140 2 (.slice (some ⟨v.gW, 0, none⟩) n v.cW) n (calls r.wait) by rw [hwz]; exact row_keep HWTQ.out (fun _ _ => rfl))
        have hxq2 : v.gW < wz.heap.size := by rw [hwz]; exact hxq
        have hgq2 : gb + 2 ≤ wz.heap.size := by rw [hwz]; exact hgq
        clear c0 c1 c2' c3 c4 c5 c6 k0 k1 k2 k3 k4 k5 k6 k7 e0 e1 hwz
        have k := blk_cell HATZ.out.blk
        have k0 := k 0
        have k1 := k 1
        have k2 := k 2
        have k3 := k 3
        have k4 := k 4
        have k5 := k 5
        have k6 := k 6
        have k7 := k 7
        clear k
        have kf := blk_frozen' HATZ.out.blk
        have a1R : v.gW ≠ v1.gR := by rcases hmR with e | e <;> omega
        have a1B : v.gW ≠ v1.gB := by rcases hmB with e | e <;> omega
        have aR := HATZ.out.aR; have aB := HATZ.out.aB
        have hg1R : gb + 1 ≠ v1.gR := by omega
        have hg1B : gb + 1 ≠ v1.gB := by omega
        have hgR : gb ≠ v1.gR := by omega
        have hgB : gb ≠ v1.gB := by omega
        have HAR := Lib.hid aR
        have HAB := Lib.hid aB
        have hlz : lo ≤ wz.heap.size := by have := HATZ.out.lob; omega
        clear aR aB
        go_upto_region 10 with (go_at_call 107; refine (l6Ends_any lo i v1 r1 d tiredE wz HATZ.out.ok HD.out (by omega) (by omega) hlz).mono ?_; rintro y w5 ⟨g5, c5, rfl, hok, htn, hg5⟩; obtain ⟨v5, hv5⟩ : ∃ y : RoomV, y = { v1 with gW := g5, cW := c5 } := ⟨_, rfl⟩; obtain ⟨r5, hr5⟩ : ∃ y : RoomD, y = endsF r1 i tiredE := ⟨_, rfl⟩; have kr := htn.blk HATZ.out.blk hgR hgB; have HKB5 := Lib.hid kr; have mv5 : Moved wz.heap.size v1 v5 := (by rw [hv5]; exact ⟨.inl rfl, .inr hg5, .inl rfl, rfl⟩); rw [← hv5, ← hr5] at hok ⊢; have HV5 := Lib.hid hv5; have HR5 := Lib.hid hr5; have HTN := Lib.hid htn; have HA6 := Lib.hid (HATZ.out.whole hok htn mv5 rfl); have z := blk_cell kr; have r0 := blk_frozen' kr; have z0 := z 0; have z1 := z 1; have z2 := z 2; have z3 := z 3; have z4 := z 4; have z5 := z 5; have z6 := z 6; have z7 := z 7; clear hok htn hg5 kr z hv5 hr5 mv5)
        obtain ⟨W6, hW6⟩ : ∃ y, y = set8 w5 gb (.int .i64 r5.o.ln) (.int .i64 r5.o.op) (.int .i64 r5.o.pt) (.int .i64 r5.clk) (v5.sR r5) (v5.sW r5) (v5.sB r5) (v5.sL r5) := ⟨_, rfl⟩
        have HKR6 := Lib.hid (show W6.heap[gb + 1]? = some roomZ by rw [hW6]; exact blk_set8 (HTN.out.blk HKRZ.out hg1R hg1B) (by omega))
        have HWT6 := Lib.hid (show W6.ownsRow lo 140 2 (.slice (some ⟨v.gW, 0, none⟩) n v.cW) n (calls r.wait) by rw [hW6]; exact row_keep' HWTZ.out ((set8_other (by omega)).trans (HTN.out.block v.gW hxq2 a1R a1B)))
        rw [← hW6] at HA6
        unfold set8 at hW6
        rw [← hW6]
        have hgR5 : v5.gR = v1.gR := by rw [HV5.out]
        have hgB5 : v5.gB = v1.gB := by rw [HV5.out]
        have hB6 : r5.back = r1.back := by rw [HR5.out]; rfl
        have hnb6 : r5.back.length ≤ 6000 := by rw [hB6]; exact hnb1
        have HB6 := Lib.hid hB6
        clear hW6 z0 z1 z2 z3 z4 z5 z6 z7 r0 k0 k1 k2 k3 k4 k5 k6 k7 kf hB6
        obtain ⟨bx, ox, x', hA, -, -, hx6, hxk', e0, e1⟩ := (row_slc HWT6.out (by decide)).callsAt hlt
        injection hA with hA
        injection hA with hA1 hA2
        subst hA1 hA2
        rw [HXK.out] at hxk'
        injection hxk' with hxk'
        subst hxk'
        simp only [Nat.zero_add] at e0 e1
        have k6 := blk_cell HA6.out.blk 6
        have hgb6 : gb + 2 ≤ W6.heap.size := HA6.out.size
        have HS0 := Lib.hid (show W6.cell? ⟨v.gW, k * 2, none⟩ = some (.int .i64 x.c) ∧ W6.cell? ⟨v.gW, k * 2 + 1, none⟩ = some (.int .i64 x.p) from ⟨e0, e1⟩)
        have kB : ∀ o : Obj, (W6.alloc o).cell? ⟨gb, 6, none⟩ = some (v5.sB r5) := fun o => cell_alloc k6 o
        have HB56 := Lib.hid hgB5
        have hB5 : v5.gB ≠ gb := by rw [hgB5]; exact Ne.symm hgB
        have hB51 : v5.gB ≠ gb + 1 := by rw [hgB5]; exact Ne.symm hg1B
        have hB5W : v5.gB ≠ v.gW := by rw [hgB5]; exact Ne.symm a1B
        have hgWb : v.gW ≠ gb := by omega
        obtain ⟨ii, hii, hz0, hz1, hz2⟩ := info_parts info_call6
        have HII := Lib.hid hii
        clear hii hgR5 hgB5 e0 e1
        obtain ⟨g1, c1, w7, hap, hown1, hgr1, B1, hat1⟩ := run_app2 (P := Try.prog) (W6.alloc (.cells #[.int .i64 x.c, .int .i64 x.p] 140)).drew 118 118 lo 140 ii (.agg #[.int .i64 0, .int .i64 0]) 2 16 Try.underlying118 HII.out hz0 hz1 hz2 rfl (by decide) v5.gB v5.cB r5.back.length (calls r5.back) (row_keep HA6.out.ok.bk (fun b hb => Below.heap_alloc _ _ b hb)) ⟨W6.heap.size, 0, none⟩ 1 1 x.cells rfl (World.news_of_block (cs := x.cells.toArray) (heap_alloc_new _ _)) (by intro u hu; simp [CallD.cells] at hu; rcases hu with rfl | rfl <;> rfl) (by unfold maxLen; omega) (by omega) (by have := HA6.out.lob; simp; omega)
        have HG1 := Lib.hid hgr1
        have HOW1 := Lib.hid hown1
        have HAT1 := Lib.hid hat1
        have kx := (blk_grown6 hgr1 (blk_alloc HA6.out.blk _) (Ne.symm hB5)).1
        have kx6 := blk_cell kx 6
        have kxf := blk_frozen' kx
        clear hown1 hgr1 B1 hat1 kx
        refine wp_WT10 W6 w7 gb v.gW _ _ v5.gB r5.back.length v5.cB g1 c1 k x.c x.p rfl rfl rfl rfl k6 HS0.out.1 HS0.out.2 (by omega) hap kx6 (kxf _) rfl ?_
        clear hap
        rw [Go.Mt.fillT_L, opsWT10_dst]
        simp only [Go.Mt.fillL, List.set_cons_zero, List.set_cons_succ, fWT10, List.getD_cons_zero, List.getD_cons_succ]
        go_upto_region 11 with fail
        have HA7 := Lib.hid (((HA6.out.alloc _).drew).appB (x := x) HG1.out HOW1.out rfl HAT1.out)
        have HKR7 := Lib.hid ((Below.heap_setCell w7 ⟨gb, 6, none⟩ (.slice (some ⟨g1, 0, none⟩) (r5.back.length + 1) c1) (gb + 1) (by show gb + 1 ≠ gb; omega)).trans (blk_grown6 HG1.out (blk_drew (blk_alloc HKR6.out _)) (Ne.symm hB51)).1)
        have HWT7 := Lib.hid (row_keep' HWT6.out ((Below.heap_setCell w7 ⟨gb, 6, none⟩ (.slice (some ⟨g1, 0, none⟩) (r5.back.length + 1) c1) v.gW (by show v.gW ≠ gb; omega)).trans ((HG1.out.block v.gW (by first | (simp; done) | (simp; omega)) (by first | (simp; done) | (simp; omega))).trans (Below.heap_alloc _ _ v.gW (by omega)))))
        obtain ⟨W7, hW7⟩ : ∃ y, y = w7.setCell ⟨gb, 6, none⟩ (.slice (some ⟨g1, 0, none⟩) (r5.back.length + 1) c1) := ⟨_, rfl⟩
        rw [← hW7] at HA7 HKR7 HWT7 ⊢
        clear hW7 kx6 kxf k6 kB
        obtain ⟨bx, ox, x', hA, -, -, hx7, hxk', e0, e1⟩ := (row_slc HWT7.out (by decide)).callsAt hlt
        injection hA with hA
        injection hA with hA1 hA2
        subst hA1 hA2
        rw [HXK.out] at hxk'
        injection hxk' with hxk'
        subst hxk'
        simp only [Nat.zero_add] at e0 e1
        obtain ⟨p, hpx⟩ : ∃ p : Nat, x.c = (p : Int) := ⟨x.c.toNat, by omega⟩
        have hp9 : p ≤ 100000000 := by omega
        have hlx : (Lib.itoa (p : Int)).length ≤ 20 := by rw [Lib.itoa_nonneg]; exact dec_len (by omega)
        rw [hpx] at e0
        have HPX := Lib.hid hpx
        clear hpx e1
        go_wp2_with (go_at_call 104; refine (l11Dec_any p hp9 _).mono ?_; rintro y w8 ⟨rfl, hb8⟩; have HB8 := Lib.hid hb8; clear hb8)
        go_roundw
        case rel =>
          refine ⟨k + 1, { v5 with gB := g1, cB := c1 }, by omega, by go_num, ?_, ?_, (blk_below HB8.out HKR7.out).1, row_below' HWT7.out HB8.out⟩
          · rw [HST.out]; simp [bytes_app, numT, HPX.out]
          · rw [HST.out]
            have := HA7.out.keep HB8.out
            rw [HB6.out, HR5.out] at this
            exact this
        case measure => simp [intOf]; omega
      · replace HST := Lib.hid (show tiredTo r m (k + 1) = (r1, tx) by rw [HST.out, if_neg hp])
        go_quiet (fail)
        go_wp2
        go_roundw
        case rel => exact ⟨k + 1, v1, by omega, by go_num, by rw [HST.out], by rw [HST.out]; exact HATQ.out.keep ⟨rfl, rfl, rfl, Nat.le_refl _, fun _ _ => rfl⟩, HKRQ.out, row_keep HWTQ.out (fun _ _ => rfl)⟩
        case measure => simp [intOf]; omega
    · have e : k = n := by omega
      subst e
      have HAL := Lib.hid (show waitsF r m = (r1, tx) by rw [← tiredTo_all, ← HNN.out, HR1.out, HTXT.out])
      have k := blk_cell HAT.out.blk
      have k0 := k 0
      have k1 := k 1
      have k2 := k 2
      have k3 := k 3
      have k4 := k 4
      have k5 := k 5
      have k6 := k 6
      have k7 := k 7
      clear k
      have z := blk_cell HKRR.out
      have z0 := z 0
      have z1 := z 1
      have z2 := z 2
      have z3 := z 3
      have z4 := z 4
      have z5 := z 5
      have z6 := z 6
      have z7 := z 7
      clear z
      have r0 := blk_frozen' HKRR.out
      go_wp2_with fail
      have er := blk_cell (set8_blk (a0 := .int .i64 (r1).o.ln) (a1 := .int .i64 (r1).o.op) (a2 := .int .i64 (r1).o.pt) (a3 := .int .i64 (r1).clk) (a4 := (v1).sR (r1)) (a5 := (v1).sW (r1)) (a6 := (v1).sB (r1)) (a7 := (v1).sL (r1)) HKRR.out)
      refine bodyPost_ret (v := .tuple #[.agg (roomA (v1) (r1)), .string ⟨(tx : List UInt8).toArray⟩]) ?_ rfl ?_
      · unfold set8 at er
        simp [results, Try.results99, go_sem, er]
      · rw [HAL.out]
        obtain ⟨d1, d2, d3⟩ := HAT.out.done (b := gb + 1) (by omega)
        exact ⟨v1, rfl, d1, d2, d3⟩
end Go.Proofs.Ytjcpjijihajopaa
