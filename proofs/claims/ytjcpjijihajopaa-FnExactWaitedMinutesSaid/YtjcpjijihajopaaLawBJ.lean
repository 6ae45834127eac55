/-
  The law of BusyMinutes, judged.
-/
import Derived.Test.YtjcpjijihajopaaLawBW
set_option linter.unusedSectionVars false
set_option linter.unusedSimpArgs false
set_option linter.unusedVariables false
namespace Go.Proofs.Ytjcpjijihajopaa
open Go.RowKit Go.Mt Go.Conc Go.Tt Go.Maps
set_option linter.unusedVariables false
noncomputable def ops7L : Array Oper := match rLB7 with | .region _ ops _ => ops | _ => #[]
theorem rLB7_eq : rLB7 = .region 7 ops7L false := rfl
theorem ops7L_range : List.range ops7L.size = [0, 1, 2, 3, 4] := rfl
abbrev oL0 : Oper := ⟨some 23, .move (.tmp 9), 25, "exact.go:3835", #[], none⟩
abbrev oL1 : Oper := ⟨some 24, .move (.tmp 1), 3, "exact.go:3835", #[], none⟩
abbrev oL2 : Oper := ⟨some 25, .move (.tmp 2), 3, "exact.go:3835", #[], none⟩
abbrev oL3 : Oper := ⟨some 26, .call ⟨.value (.func 12), #[.tmp 23, .tmp 24, .tmp 25], #[25, 3, 3]⟩, 3, "exact.go:3835", #[{ on := 0, ground := Ground.data }, { on := 1, ground := Ground.data }, { on := 2, ground := Ground.data }], none⟩
abbrev oL4 : Oper := ⟨some 10, .assign (.tmp 26), 3, "exact.go:3835", #[{ on := 3, ground := Ground.data }, { on := 3, ground := Ground.chain }, { on := 0, ground := Ground.phase }, { on := 1, ground := Ground.phase }, { on := 2, ground := Ground.phase }, { on := 3, ground := Ground.phase }], none⟩
theorem ops7L_0 : ops7L[0]? = some oL0 := rfl
theorem ops7L_1 : ops7L[1]? = some oL1 := rfl
theorem ops7L_2 : ops7L[2]? = some oL2 := rfl
theorem ops7L_3 : ops7L[3]? = some oL3 := rfl
theorem ops7L_4 : ops7L[4]? = some oL4 := rfl
theorem recs_plain {rs : List RecD} : ∀ v ∈ recs rs, plainV v := by
  intro v hv
  obtain ⟨d, _, hd⟩ := List.mem_flatMap.1 hv
  simp only [RecD.cells, List.mem_cons, List.not_mem_nil, or_false] at hd
  rcases hd with rfl | rfl | rfl | rfl | rfl | rfl | rfl
  all_goals first
    | exact .inl ⟨_, _, rfl⟩
    | exact .inr (.inl ⟨_, rfl⟩)
section
variable {St : Nat → Prop} {W0 : World} {Post : Value → World → Prop}
set_option maxHeartbeats 4000000 in
set_option maxRecDepth 100000 in
theorem jo_law_busy {w : World} {A : Option Addr} {n cap : Nat} {l q : Int} {rs : List RecD} (hs : Slc w 0 w.heap.size 7 A n cap (recs rs)) (hd : ∀ d ∈ rs, d.e.size ≤ maxLen) (hG : Try.prog.globals.size ≤ w.heap.size) (hP : ∀ (R : Pr) (W : World), Kp W0 R St W → Post (.bool true) W) :
    JE St W0 Post ⟨3, #[.slice A n cap, .int .i64 l, .int .i64 q, undef, undef, undef, undef, undef, undef, undef, undef, undef, undef, undef, undef, undef, undef, undef, undef, undef, undef, undef, undef, undef, undef, undef, undef, undef, undef, undef, undef, undef, undef, undef, undef], [.code bodyLB], false⟩ [] w := by
  have L := lvF
  have hfo : inL olL 3 = false := by kernel_rfl
  have hend : ∀ (tmps : Array Value) (td : List Item) (w' : World), tmps.getD 6 undef = .bool true → JE St W0 Post ⟨3, tmps, td, true⟩ [] w' := by
    intro tmps td w' h6
    refine JO.fin L (t := 6) rfl Try.func3 rfl (by kernel_rfl) fun K R W v' hv hk => ?_
    have hv' : VR (SF fsF) K R (tmps.getD 6 undef) v' := hv
    rw [h6] at hv'
    cases hv'
    exact hP R W hk
  rw [bodyLB_eq]
  refine JO.seq L hfo ?_
  refine JO.piece L (by kernel_rfl) hfo (fun T => ?_)
  refine wpLB0 ⟨rfl, ?_⟩
  have B := (Bl.refl w.heap.size w).tp T 0
  generalize Tt.tp w T 0 = w1 at B ⊢
  refine JO.seq L hfo ?_
  refine JO.piece L (by kernel_rfl) hfo (fun T => ?_)
  refine wpLB1 ⟨rfl, ?_⟩
  replace B := B.tp T 0
  generalize Tt.tp w1 T 0 = w2 at B ⊢
  refine JO.seq L hfo ?_
  refine JO.piece L (by kernel_rfl) hfo (fun T => ?_)
  replace B := B.tp T 0
  refine wpLB2 (hs.bl B) hd (fun u11 u12 u13 w3 b3 => ⟨rfl, ?_⟩)
  replace B := B.below b3 (Nat.le_refl _)
  clear b3
  refine JO.seq L hfo ?_
  refine JO.seq L hfo ?_
  refine JO.piece L (by kernel_rfl) hfo (fun T => ?_)
  refine wpLB3 (fun u14 => ⟨rfl, ?_⟩)
  replace B := B.tp T 0
  generalize Tt.tp w3 T 0 = w4 at B ⊢
  by_cases hneg : szRecN 1048576 n rs < 0
  · refine JO.cond L (t := true) hfo (by show Value.bool (decide _) = _; rw [decide_eq_true hneg]) ?_
    refine JO.seq L hfo ?_
    refine JO.piece L (by kernel_rfl) hfo (fun T => ?_)
    refine wpLB4 ⟨rfl, ?_⟩
    refine JO.ret L hfo ?_
    exact hend _ _ _ rfl
  refine JO.cond L (t := false) hfo (by show Value.bool (decide _) = _; rw [decide_eq_false hneg]) ?_
  refine JO.skip L hfo ?_
  obtain ⟨hn, _⟩ := szRecN_all (by omega : 0 ≤ szRecN 1048576 n rs) (by omega)
  refine JO.seq L hfo ?_
  refine JO.piece L (by kernel_rfl) hfo (fun T => ?_)
  replace B := B.tp T 0
  refine wpLB5 (hs.bl B) hn (fun u16 u17 u18 u19 u20 w5 b5 => ⟨rfl, ?_⟩)
  replace B := B.below b5 (Nat.le_refl _)
  clear b5
  refine JO.seq L hfo ?_
  refine JO.piece L (by kernel_rfl) hfo (fun T => ?_)
  replace B := B.tp T 0
  refine wpLB6 (hs.bl B) hn (fun u21 u22 w6 v hN => ⟨rfl, ?_⟩)
  obtain ⟨b, m, cs, hv, hm, hlo, hb, hcs, ho, b6⟩ := hN
  have hzB := B.size
  have hzB' : w.heap.size ≤ (Tt.tp w5 T 0).heap.size := hzB
  replace B := B.below b6 (Nat.le_refl _)
  clear b6
  obtain rfl : v = .slice (some ⟨b, 0, none⟩) m m := by injection hv
  have hm1 : m ≤ 1048576 := by rw [hm, hs.recLen]; exact hn
  have hs6 : Slc w6 0 w6.heap.size 7 (some ⟨b, 0, none⟩) m m (recs rs) := ho.slc.wide (Nat.zero_le _) (Nat.le_refl _)
  have hsrc : srcOk w6 (some ⟨b, 0, none⟩) (some ⟨b, 0, cs, 50, (0, 0)⟩) := ⟨rfl, hb, fun v hv => recs_plain v (by rw [← hcs]; simpa using hv)⟩
  clear ho hcs hv hb
  refine JO.seq L hfo ?_
  rw [rLB7_eq]
  refine JO.reg L hfo ?_
  rw [ops7L_range]
  refine JO.opv L (v := .slice (some ⟨b, 0, none⟩) m m) hfo ops7L_0 rfl (fun T e => rfl) ?_
  simp only [Go.Act.put, List.setIfInBounds_toArray, List.set_cons_zero, List.set_cons_succ]
  refine JO.opv L (v := .int .i64 l) hfo ops7L_1 rfl (fun T e => rfl) ?_
  simp only [Go.Act.put, List.setIfInBounds_toArray, List.set_cons_zero, List.set_cons_succ]
  refine JO.opv L (v := .int .i64 q) hfo ops7L_2 rfl (fun T e => rfl) ?_
  simp only [Go.Act.put, List.setIfInBounds_toArray, List.set_cons_zero, List.set_cons_succ]
  refine jo_busy (l := l) (q := q) (A := some ⟨b, 0, none⟩) (n := m) (cap := m) (ops := ops7L) (i := 3) (o := oL3) (rs := rs) rfl hfo rfl ops7L_3 rfl rfl (by simp [Fm.eval]) hsrc (fun b' e => by cases e; show _ ≤ b; omega) hs6 hm1 (fun w7 B7 => ?_)
  have hs7 := hs6.bl B7
  replace B : Bl w.heap.size w w7 := B.trans ⟨B7.size, fun x hx => B7.block x (by have := B.size; omega)⟩
  clear B7 hs6 hsrc
  simp only [Fm.fin, ops7L_3, Option.bind_some, List.setIfInBounds_toArray, List.set_cons_zero, List.set_cons_succ]
  refine JO.opv L (v := .int .i64 (busyM rs l q)) hfo ops7L_4 rfl (fun T e => rfl) ?_
  simp only [Go.Act.put, List.setIfInBounds_toArray, List.set_cons_zero, List.set_cons_succ]
  refine JO.regEnd L hfo ?_
  refine JO.seq L hfo ?_
  refine JO.seq L hfo ?_
  refine JO.piece L (by kernel_rfl) hfo (fun T => ?_)
  refine wpLB8 (fun u27 u28 => ⟨rfl, ?_⟩)
  replace hs7 := hs7.bl ((Bl.refl _ w7).tp T 0)
  replace B := B.tp T 0
  generalize Tt.tp w7 T 0 = w8 at B hs7 ⊢
  refine JO.cond L (t := false) hfo rfl ?_
  refine JO.skip L hfo ?_
  refine JO.seq L hfo ?_
  refine JO.seq L hfo ?_
  refine JO.piece L (by kernel_rfl) hfo (fun T => ?_)
  replace hs7 := hs7.bl ((Bl.refl _ w8).tp T 0)
  replace B := B.tp T 0
  refine wpLB10 (hs.bl B) hs7 hn (fun u30 u31 u32 u33 w9 => ⟨rfl, ?_⟩)
  refine JO.cond L (t := false) hfo rfl ?_
  refine JO.skip L hfo ?_
  refine JO.seq L hfo ?_
  refine JO.piece L (by kernel_rfl) hfo (fun T => ?_)
  refine wpLB12 ⟨rfl, ?_⟩
  refine JO.ret L hfo ?_
  exact hend _ _ _ rfl
end
end Go.Proofs.Ytjcpjijihajopaa
