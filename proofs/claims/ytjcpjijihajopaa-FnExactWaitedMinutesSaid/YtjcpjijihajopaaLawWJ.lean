/-
  The law of WaitedMinutes, judged.
-/
import Derived.Test.YtjcpjijihajopaaLawWW
import Derived.Test.YtjcpjijihajopaaLawBJ
set_option linter.unusedSectionVars false
set_option linter.unusedSimpArgs false
set_option linter.unusedVariables false
namespace Go.Proofs.Ytjcpjijihajopaa
open Go.RowKit Go.Mt Go.Conc Go.Tt Go.Maps
set_option linter.unusedVariables false
noncomputable def ops7K : Array Oper := match rLW7 with | .region _ ops _ => ops | _ => #[]
theorem rLW7_eq : rLW7 = .region 7 ops7K false := rfl
theorem ops7K_range : List.range ops7K.size = [0, 1, 2, 3, 4] := rfl
abbrev oK0 : Oper := ⟨some 23, .move (.tmp 9), 25, "exact.go:3854", #[], none⟩
abbrev oK1 : Oper := ⟨some 24, .move (.tmp 1), 3, "exact.go:3854", #[], none⟩
abbrev oK2 : Oper := ⟨some 25, .move (.tmp 2), 3, "exact.go:3854", #[], none⟩
abbrev oK3 : Oper := ⟨some 26, .call ⟨.value (.func 15), #[.tmp 23, .tmp 24, .tmp 25], #[25, 3, 3]⟩, 3, "exact.go:3854", #[{ on := 0, ground := Ground.data }, { on := 1, ground := Ground.data }, { on := 2, ground := Ground.data }], none⟩
abbrev oK4 : Oper := ⟨some 10, .assign (.tmp 26), 3, "exact.go:3854", #[{ on := 3, ground := Ground.data }, { on := 3, ground := Ground.chain }, { on := 0, ground := Ground.phase }, { on := 1, ground := Ground.phase }, { on := 2, ground := Ground.phase }, { on := 3, ground := Ground.phase }], none⟩
theorem ops7K_0 : ops7K[0]? = some oK0 := rfl
theorem ops7K_1 : ops7K[1]? = some oK1 := rfl
theorem ops7K_2 : ops7K[2]? = some oK2 := rfl
theorem ops7K_3 : ops7K[3]? = some oK3 := rfl
theorem ops7K_4 : ops7K[4]? = some oK4 := rfl
section
variable {St : Nat → Prop} {W0 : World} {Post : Value → World → Prop}
set_option maxHeartbeats 4000000 in
set_option maxRecDepth 100000 in
theorem jo_law_wait {w : World} {A : Option Addr} {n cap : Nat} {l q : Int} {rs : List RecD} (hs : Slc w 0 w.heap.size 7 A n cap (recs rs)) (hd : ∀ d ∈ rs, d.e.size ≤ maxLen) (hG : Try.prog.globals.size ≤ w.heap.size) (hP : ∀ (R : Pr) (W : World), Kp W0 R St W → Post (.bool true) W) :
    JE St W0 Post ⟨4, #[.slice A n cap, .int .i64 l, .int .i64 q, undef, undef, undef, undef, undef, undef, undef, undef, undef, undef, undef, undef, undef, undef, undef, undef, undef, undef, undef, undef, undef, undef, undef, undef, undef, undef, undef, undef, undef, undef, undef, undef], [.code bodyLW], false⟩ [] w := by
  have L := lvF
  have hfo : inL olL 4 = false := by kernel_rfl
  have hend : ∀ (tmps : Array Value) (td : List Item) (w' : World), tmps.getD 6 undef = .bool true → JE St W0 Post ⟨4, tmps, td, true⟩ [] w' := by
    intro tmps td w' h6
    refine JO.fin L (t := 6) rfl Try.func4 rfl (by kernel_rfl) fun K R W v' hv hk => ?_
    have hv' : VR (SF fsF) K R (tmps.getD 6 undef) v' := hv
    rw [h6] at hv'
    cases hv'
    exact hP R W hk
  rw [bodyLW_eq]
  refine JO.seq L hfo ?_
  refine JO.piece L (by kernel_rfl) hfo (fun T => ?_)
  refine wpLW0 ⟨rfl, ?_⟩
  have B := (Bl.refl w.heap.size w).tp T 0
  generalize Tt.tp w T 0 = w1 at B ⊢
  refine JO.seq L hfo ?_
  refine JO.piece L (by kernel_rfl) hfo (fun T => ?_)
  refine wpLW1 ⟨rfl, ?_⟩
  replace B := B.tp T 0
  generalize Tt.tp w1 T 0 = w2 at B ⊢
  refine JO.seq L hfo ?_
  refine JO.piece L (by kernel_rfl) hfo (fun T => ?_)
  replace B := B.tp T 0
  refine wpLW2 (hs.bl B) hd (fun u11 u12 u13 w3 b3 => ⟨rfl, ?_⟩)
  replace B := B.below b3 (Nat.le_refl _)
  clear b3
  refine JO.seq L hfo ?_
  refine JO.seq L hfo ?_
  refine JO.piece L (by kernel_rfl) hfo (fun T => ?_)
  refine wpLW3 (fun u14 => ⟨rfl, ?_⟩)
  replace B := B.tp T 0
  generalize Tt.tp w3 T 0 = w4 at B ⊢
  by_cases hneg : szRecN 1048576 n rs < 0
  · refine JO.cond L (t := true) hfo (by show Value.bool (decide _) = _; rw [decide_eq_true hneg]) ?_
    refine JO.seq L hfo ?_
    refine JO.piece L (by kernel_rfl) hfo (fun T => ?_)
    refine wpLW4 ⟨rfl, ?_⟩
    refine JO.ret L hfo ?_
    exact hend _ _ _ rfl
  refine JO.cond L (t := false) hfo (by show Value.bool (decide _) = _; rw [decide_eq_false hneg]) ?_
  refine JO.skip L hfo ?_
  obtain ⟨hn, _⟩ := szRecN_all (by omega : 0 ≤ szRecN 1048576 n rs) (by omega)
  refine JO.seq L hfo ?_
  refine JO.piece L (by kernel_rfl) hfo (fun T => ?_)
  replace B := B.tp T 0
  refine wpLW5 (hs.bl B) hn (fun u16 u17 u18 u19 u20 w5 b5 => ⟨rfl, ?_⟩)
  replace B := B.below b5 (Nat.le_refl _)
  clear b5
  refine JO.seq L hfo ?_
  refine JO.piece L (by kernel_rfl) hfo (fun T => ?_)
  replace B := B.tp T 0
  refine wpLW6 (hs.bl B) hn (fun u21 u22 w6 v hN => ⟨rfl, ?_⟩)
  obtain ⟨b, m, cs, hv, hm, hlo, hb, hcs, ho, b6⟩ := hN
  have hzB := B.size
  have hzB' : w.heap.size ≤ (Tt.tp w5 T 0).heap.size := hzB
  replace B := B.below b6 (Nat.le_refl _)
  clear b6
  obtain rfl : v = .slice (some ⟨b, 0, none⟩) m m := by injection hv
  have hm1 : m ≤ 1048576 := by rw [hm, hs.recLen]; exact hn
  have hs6 : Slc w6 0 w6.heap.size 7 (some ⟨b, 0, none⟩) m m (recs rs) := ho.slc.wide (Nat.zero_le _) (Nat.le_refl _)
  have hsrc : srcOk w6 (some ⟨b, 0, none⟩) (some ⟨b, 0, cs, 50, (0, 0)⟩) := ⟨rfl, hb, fun v hv => recs_plain v (by rw [← hcs]; simpa using hv)⟩
  clear ho hcs hv hb
  refine JO.seq L hfo ?_
  rw [rLW7_eq]
  refine JO.reg L hfo ?_
  rw [ops7K_range]
  refine JO.opv L (v := .slice (some ⟨b, 0, none⟩) m m) hfo ops7K_0 rfl (fun T e => rfl) ?_
  simp only [Go.Act.put, List.setIfInBounds_toArray, List.set_cons_zero, List.set_cons_succ]
  refine JO.opv L (v := .int .i64 l) hfo ops7K_1 rfl (fun T e => rfl) ?_
  simp only [Go.Act.put, List.setIfInBounds_toArray, List.set_cons_zero, List.set_cons_succ]
  refine JO.opv L (v := .int .i64 q) hfo ops7K_2 rfl (fun T e => rfl) ?_
  simp only [Go.Act.put, List.setIfInBounds_toArray, List.set_cons_zero, List.set_cons_succ]
  refine jo_wait (l := l) (q := q) (A := some ⟨b, 0, none⟩) (n := m) (cap := m) (ops := ops7K) (i := 3) (o := oK3) (rs := rs) rfl hfo rfl ops7K_3 rfl rfl (by simp [Fm.eval]) hsrc (fun b' e => by cases e; show _ ≤ b; omega) hs6 hm1 (fun w7 B7 => ?_)
  have hs7 := hs6.bl B7
  replace B : Bl w.heap.size w w7 := B.trans ⟨B7.size, fun x hx => B7.block x (by have := B.size; omega)⟩
  clear B7 hs6 hsrc
  simp only [Fm.fin, ops7K_3, Option.bind_some, List.setIfInBounds_toArray, List.set_cons_zero, List.set_cons_succ]
  refine JO.opv L (v := .int .i64 (waitM rs l q)) hfo ops7K_4 rfl (fun T e => rfl) ?_
  simp only [Go.Act.put, List.setIfInBounds_toArray, List.set_cons_zero, List.set_cons_succ]
  refine JO.regEnd L hfo ?_
  refine JO.seq L hfo ?_
  refine JO.seq L hfo ?_
  refine JO.piece L (by kernel_rfl) hfo (fun T => ?_)
  refine wpLW8 (fun u27 u28 => ⟨rfl, ?_⟩)
  replace hs7 := hs7.bl ((Bl.refl _ w7).tp T 0)
  replace B := B.tp T 0
  generalize Tt.tp w7 T 0 = w8 at B hs7 ⊢
  refine JO.cond L (t := false) hfo rfl ?_
  refine JO.skip L hfo ?_
  refine JO.seq L hfo ?_
  refine JO.seq L hfo ?_
  refine JO.piece L (by kernel_rfl) hfo (fun T => ?_)
  replace hs7 := hs7.bl ((Bl.refl _ w8).tp T 0)
  replace B := B.tp T 0
  refine wpLW10 (hs.bl B) hs7 hn (fun u30 u31 u32 u33 w9 => ⟨rfl, ?_⟩)
  refine JO.cond L (t := false) hfo rfl ?_
  refine JO.skip L hfo ?_
  refine JO.seq L hfo ?_
  refine JO.piece L (by kernel_rfl) hfo (fun T => ?_)
  refine wpLW12 ⟨rfl, ?_⟩
  refine JO.ret L hfo ?_
  exact hend _ _ _ rfl
end
end Go.Proofs.Ytjcpjijihajopaa
