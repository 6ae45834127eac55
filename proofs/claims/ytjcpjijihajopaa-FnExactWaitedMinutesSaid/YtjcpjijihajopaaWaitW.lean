/-
  The program's WaitedMinutes, whose records come from another goroutine.
-/
import Derived.Test.YtjcpjijihajopaaJEach
import Derived.Test.YtjcpjijihajopaaWait1
import Derived.Test.YtjcpjijihajopaaMt7
set_option linter.unusedSectionVars false
set_option linter.unusedSimpArgs false
set_option linter.unusedVariables false
namespace Go.Proofs.Ytjcpjijihajopaa
open Go.RowKit Go.Mt Go.Conc Go.Tt Go.Maps
set_option linter.unusedVariables false
noncomputable def bodyWM : Code := (Try.f15.body).getD .skip
noncomputable def rWM0 : Code := match bodyWM with | .seq a _ => a | _ => .skip
noncomputable def rWM1 : Code := match bodyWM with | .seq _ (.seq (.seq a _) _) => a | _ => .skip
noncomputable def rWM2 : Code := match bodyWM with | .seq _ (.seq (.seq _ (.cond _ (.seq a _) _)) _) => a | _ => .skip
noncomputable def rWM3 : Code := match bodyWM with | .seq _ (.seq _ (.seq a _)) => a | _ => .skip
noncomputable def rWM4 : Code := match bodyWM with | .seq _ (.seq _ (.seq _ (.seq a _))) => a | _ => .skip
noncomputable def rWM5 : Code := match bodyWM with | .seq _ (.seq _ (.seq _ (.seq _ (.seq a _)))) => a | _ => .skip
theorem bodyWM_eq : bodyWM = .seq rWM0 (.seq (.seq rWM1 (.cond (.tmp 19) (.seq rWM2 .ret) .skip)) (.seq rWM3 (.seq rWM4 (.seq rWM5 .ret)))) := rfl
section
variable {Q : Exit → Go.Act → World → Prop} {u0 u1 u2 u3 u4 u5 u6 u7 u8 u9 u10 u11 u12 u13 u14 u15 u16 u17 u18 u19 u20 u21 u22 u23 u24 u25 u26 : Value} {w : World} {A : Option Addr} {n cap : Nat} {l q : Int} {rs : List RecD} {g5 g7 gm : Nat} {t : Bool}
set_option maxHeartbeats 1000000 in
theorem wpWM0 (h : Q .normal ⟨#[.slice A n cap, .int .i64 l, .int .i64 q, u3, u4, .pointer (some ⟨w.heap.size, 0, none⟩), .int .i64 0, u7, u8, u9, u10, u11, u12, u13, u14, u15, u16, u17, u18, u19, u20, u21, u22, u23, u24, u25, u26], []⟩ (w.alloc (.cells #[.int .i64 q] 3))) :
    Code.wp Try.prog rWM0 Q ⟨#[.slice A n cap, .int .i64 l, .int .i64 q, u3, u4, u5, u6, u7, u8, u9, u10, u11, u12, u13, u14, u15, u16, u17, u18, u19, u20, u21, u22, u23, u24, u25, u26], []⟩ w := by
  simp only [rWM0, bodyWM, Try.f15, Option.getD_some]
  go_wp2
  exact h
set_option maxHeartbeats 1000000 in
theorem wpWM1 {lo hi : Nat} (hs : Slc w lo hi 7 A n cap (recs rs)) (hn : n ≤ 1048576) (h5 : w.heap[g5]? = some (.cells #[.int .i64 q] 3)) (ht : t = (clockB rs q && inB l 1 99))
    (h : ∀ u8 u9 u10 u11 u12 u13 u14 u15 u16 u17 u18 w', Below w.heap.size w w' → Q .normal ⟨#[.slice A n cap, .int .i64 l, .int .i64 q, u3, u4, .pointer (some ⟨g5, 0, none⟩), .int .i64 0, u7, u8, u9, u10, u11, u12, u13, u14, u15, u16, u17, u18, .bool (!t), u20, u21, u22, u23, u24, u25, u26], []⟩ w') :
    Code.wp Try.prog rWM1 Q ⟨#[.slice A n cap, .int .i64 l, .int .i64 q, u3, u4, .pointer (some ⟨g5, 0, none⟩), .int .i64 0, u7, u8, u9, u10, u11, u12, u13, u14, u15, u16, u17, u18, u19, u20, u21, u22, u23, u24, u25, u26], []⟩ w := by
  simp only [rWM1, bodyWM, Try.f15, Option.getD_some]
  have HH := Lib.hid h
  have c5 := blk_cell h5 0
  obtain ⟨s, hs'⟩ : ∃ s, s = clockB rs q := ⟨_, rfl⟩
  have HS := Lib.hid hs'
  rw [← hs'] at ht
  have HT := Lib.hid ht
  clear h h5 hs' ht
  go_wp2_with fail
  refine (impl_clockValid _ _ _ _ _ _ _ _ hs hn).mono ?_
  rintro e w1 ⟨rfl, b1⟩
  rw [← HS.out]
  clear hs c5
  cases s
  · have et : t = false := by rw [HT.out]; rfl
    subst et
    go_wp2
    exact HH.out _ _ _ _ _ _ _ _ _ _ _ _ b1
  · by_cases h1 : l < 1
    · have et : t = false := by rw [HT.out]; simp [inB]; omega
      subst et
      go_wp2
      exact HH.out _ _ _ _ _ _ _ _ _ _ _ _ b1
    · have et : (decide (l < 1) || decide (99 < l)) = !t := by
        rw [HT.out, Bool.eq_iff_iff]; simp [inB]
      have HE := Lib.hid et
      have h1' : 1 ≤ l := by omega
      clear et h1
      go_wp2
      all_goals first
        | (rw [HE.out]; exact HH.out _ _ _ _ _ _ _ _ _ _ _ _ b1)
        | (exfalso; omega)
        | skip
set_option maxHeartbeats 1000000 in
theorem wpWM2 (h : Q .normal ⟨#[u0, u1, u2, u3, u4, u5, .int .i64 (-1), u7, u8, u9, u10, u11, u12, u13, u14, u15, u16, u17, u18, u19, u20, u21, u22, u23, u24, u25, u26], []⟩ w) : Code.wp Try.prog rWM2 Q ⟨#[u0, u1, u2, u3, u4, u5, u6, u7, u8, u9, u10, u11, u12, u13, u14, u15, u16, u17, u18, u19, u20, u21, u22, u23, u24, u25, u26], []⟩ w := by
  simp only [rWM2, bodyWM, Try.f15, Option.getD_some]
  go_wp2
  exact h
set_option maxHeartbeats 1000000 in
theorem wpWM3 (h : Q .normal ⟨#[u0, u1, u2, u3, u4, u5, u6, .pointer (some ⟨w.heap.size + 1, 0, none⟩), u8, u9, u10, u11, u12, u13, u14, u15, u16, u17, u18, u19, .map (some w.heap.size), u21, u22, u23, u24, u25, u26], []⟩ ((w.alloc (.map #[] 0)).alloc (.cells #[.map (some w.heap.size)] 59))) : Code.wp Try.prog rWM3 Q ⟨#[u0, u1, u2, u3, u4, u5, u6, u7, u8, u9, u10, u11, u12, u13, u14, u15, u16, u17, u18, u19, u20, u21, u22, u23, u24, u25, u26], []⟩ w := by
  simp only [rWM3, bodyWM, Try.f15, Option.getD_some]
  have hmm := @run_makeMap Try.prog
  go_wp2
  simpa using h
set_option maxHeartbeats 1000000 in
theorem wpWM5 {k : Nat} {D : DataW Unit} {c : Int} (hm : SumsM w gm k D) (h7 : w.heap[g7]? = some (.cells #[.map (some gm)] 59)) (hl : 1 ≤ l ∧ l ≤ 99) (hc : D.atKey (.int .i64 l) (.lit (.int .i64 0)) = .lit (.int .i64 c)) (h : ∀ u24 u25 u26, Q .normal ⟨#[u0, .int .i64 l, u2, u3, u4, u5, .int .i64 c, .pointer (some ⟨g7, 0, none⟩), u8, u9, u10, u11, u12, u13, u14, u15, u16, u17, u18, u19, u20, u21, u22, u23, u24, u25, u26], []⟩ w) : Code.wp Try.prog rWM5 Q ⟨#[u0, .int .i64 l, u2, u3, u4, u5, u6, .pointer (some ⟨g7, 0, none⟩), u8, u9, u10, u11, u12, u13, u14, u15, u16, u17, u18, u19, u20, u21, u22, u23, u24, u25, u26], []⟩ w := by
  simp only [rWM5, bodyWM, Try.f15, Option.getD_some]
  have c7 := blk_cell h7 0
  have hlk := sums_look hm (wf_small (by omega) (by omega)) hc
  have HH := Lib.hid h
  clear h
  go_wp2
  exact HH.out _ _ _
end
end Go.Proofs.Ytjcpjijihajopaa
