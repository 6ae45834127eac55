/-
  The walk of the law: RefusedDeeds answers as the reference does.
-/
import Derived.Test.YtojnnemodikpeaaDoorLens
namespace Go.Proofs.YtojnnemodikpeaaDoor
open Go.RowKit
set_option linter.unusedVariables false
set_option maxRecDepth 20000 in
set_option maxHeartbeats 2000000 in
theorem walk_RefusedDeeds (n0 c0 : Nat) (A0 : Option Addr) (x0 : List Int) (n1 c1 : Nat) (A1 : Option Addr) (x1 : List DeedD) (w : World) (h0 : Slc w 0 w.heap.size 1 A0 n0 c0 (ints x0)) (h1 : Slc w 0 w.heap.size 3 A1 n1 c1 (deeds x1)) (q1 : ∀ d ∈ x1, d.act.size ≤ maxLen) (ht : TabW w) :
    Calls Tryd.prog 6 #[.slice A0 n0 c0, .slice A1 n1 c1] w fun e w' => e = .returned (.bool true) ∧ Below w.heap.size w w' := by
  by_cases e0 : 1048576 < n0
  · go_enter Tryd.func6, Tryd.ntmps6
    go_wp2_with fail
    go_ret
    exact ⟨rfl, Below.refl _ _⟩
  · skip
    by_cases e1 : szDeedN (1048576) n1 x1 < 0
    · go_enter Tryd.func6, Tryd.ntmps6
      go_wp2_with (go_at_call 17; refine (szDeedS_any _ _ _ _ _ _ (1048576) _ h1 q1 (by omega) (by omega)).mono ?_; rintro e w1 ⟨rfl, b1⟩)
      have s1 := b1.size
      have B := b1
      go_wp2_with fail
      go_ret
      exact ⟨rfl, B⟩
    · skip
      have l0 : n0 ≤ 1048576 := by omega
      have l1 : n1 ≤ 1048576 := (szDeedN_all (l := 1048576) (n := n1) (ds := x1) (by omega) (by omega)).1
      have HX0 := Lib.hid (beq_self_eq_true x0)
      have HX1 := Lib.hid (beq_self_eq_true x1)
      have HT := Lib.hid ht
      clear ht
      obtain ⟨F, hF⟩ : ∃ F, F = (refusedF x0 x1) := ⟨_, rfl⟩
      have HEQ := Lib.hid (beq_self_eq_true F)
      have HFF := Lib.hid hF
      clear hF
      go_enter Tryd.func6, Tryd.ntmps6
      go_wp2_with (go_at_call 17; refine (szDeedS_any _ _ _ _ _ _ (1048576) _ h1 q1 (by omega) (by omega)).mono ?_; rintro e w1 ⟨rfl, b1⟩)
      have s1 := b1.size
      have B := b1
      replace h0 := h0.below b1
      replace h1 := h1.below b1
      clear b1
      have HLEN := Lib.hid (show F.length ≤ 1048576 by rw [HFF.out]; exact refusedF_len _ _)
      go_wp2_with (go_at_call 19; refine (toInt_u h0 l0).mono ?_; rintro e w2 ⟨Ya0, da0, rfl, ya0, b2⟩)
      have s2 := b2.size
      replace B := below_step B b2
      replace h0 := h0.below b2
      replace h1 := h1.below b2
      clear b2
      go_wp2_with (go_at_call 20; refine (toDeed_u h1 l1).mono ?_; rintro e w3 ⟨Ya1, da1, rfl, ya1, b3⟩)
      have s3 := b3.size
      replace B := below_step B b3
      replace h0 := h0.below b3
      replace h1 := h1.below b3
      replace ya0 := ya0.below b3
      clear b3
      go_wp2_with (go_at_call 35; refine (spec_RefusedDeeds _ _ _ _ _ _ _ _ _ _ _ _ _ ya0.slc ya1.slc l0 l1).mono ?_; rintro e w4 ⟨roA, ron, roc, rfl, ro, b4⟩)
      have s4 := b4.size
      rw [← HFF.out] at ro
      have rol : ron ≤ 1048576 := by have := ro.slc.len; have := HLEN.out; simp [ints] at *; omega
      replace B := below_step B b4
      replace h0 := h0.below b4
      replace h1 := h1.below b4
      replace ya0 := ya0.below b4
      replace ya1 := ya1.below b4
      clear b4
      clear ya0
      clear ya1
      go_wp2_with (go_at_call 19; refine (toInt_u h0 l0).mono ?_; rintro e w5 ⟨Yb0, db0, rfl, yb0, b5⟩)
      have s5 := b5.size
      replace B := below_step B b5
      replace h0 := h0.below b5
      replace h1 := h1.below b5
      replace ro := ro.below b5
      clear b5
      go_wp2_with (go_at_call 20; refine (toDeed_u h1 l1).mono ?_; rintro e w6 ⟨Yb1, db1, rfl, yb1, b6⟩)
      have s6 := b6.size
      replace B := below_step B b6
      replace h0 := h0.below b6
      replace h1 := h1.below b6
      replace ro := ro.below b6
      replace yb0 := yb0.below b6
      clear b6
      go_wp2_with (go_at_call 36; refine (impl_RefusedDeeds _ _ _ _ _ _ _ _ _ _ _ _ _ yb0.slc yb1.slc l0 l1 (HT.out.below B)).mono ?_; rintro e w7 ⟨rgA, rgn, rgc, rfl, rg, b7⟩)
      have s7 := b7.size
      rw [← HFF.out] at rg
      have rgl : rgn ≤ 1048576 := by have := rg.slc.len; have := HLEN.out; simp [ints] at *; omega
      replace B := below_step B b7
      replace h0 := h0.below b7
      replace h1 := h1.below b7
      replace ro := ro.below b7
      replace yb0 := yb0.below b7
      replace yb1 := yb1.below b7
      clear b7
      go_wp2_with (go_at_call 22; refine (eqInt_u rg.slc ro.slc rgl rol).mono ?_; rintro e w8 ⟨rfl, b8⟩; rw [HEQ.out])
      have s8 := b8.size
      replace B := below_step B b8
      replace h0 := h0.below b8
      replace h1 := h1.below b8
      replace ro := ro.below b8
      replace yb0 := yb0.below b8
      replace yb1 := yb1.below b8
      replace rg := rg.below b8
      clear b8
      go_wp2_with (go_at_call 19; refine (toInt_u h0 l0).mono ?_; rintro e w9 ⟨Yc0, dc0, rfl, yc0, b9⟩)
      have s9 := b9.size
      replace B := below_step B b9
      replace h0 := h0.below b9
      replace h1 := h1.below b9
      replace ro := ro.below b9
      replace yb0 := yb0.below b9
      replace yb1 := yb1.below b9
      replace rg := rg.below b9
      clear b9
      go_wp2_with (go_at_call 22; refine (eqInt_u yb0.slc yc0.slc l0 l0).mono ?_; rintro e w10 ⟨rfl, b10⟩; rw [HX0.out])
      have s10 := b10.size
      replace B := below_step B b10
      replace h0 := h0.below b10
      replace h1 := h1.below b10
      replace ro := ro.below b10
      replace yb0 := yb0.below b10
      replace yb1 := yb1.below b10
      replace rg := rg.below b10
      clear b10 yc0
      go_wp2_with (go_at_call 20; refine (toDeed_u h1 l1).mono ?_; rintro e w11 ⟨Yc1, dc1, rfl, yc1, b11⟩)
      have s11 := b11.size
      replace B := below_step B b11
      replace h0 := h0.below b11
      replace h1 := h1.below b11
      replace ro := ro.below b11
      replace yb0 := yb0.below b11
      replace yb1 := yb1.below b11
      replace rg := rg.below b11
      clear b11
      go_wp2_with (go_at_call 23; refine (eqDeed_u yb1.slc yc1.slc l1 l1).mono ?_; rintro e w12 ⟨rfl, b12⟩; rw [HX1.out])
      have s12 := b12.size
      replace B := below_step B b12
      replace h0 := h0.below b12
      replace h1 := h1.below b12
      replace ro := ro.below b12
      replace yb0 := yb0.below b12
      replace yb1 := yb1.below b12
      replace rg := rg.below b12
      clear b12 yc1
      go_wp2_with (go_at_call 24; refine (markInt_u (1) yb0 l0 (by omega)).mono ?_; rintro e w13 ⟨rfl, m0, b13⟩)
      have s13 := b13.size
      clear yb0 m0
      replace B := Below.chg B b13 (by omega)
      replace h0 := h0.chg b13 (by omega)
      replace h1 := h1.chg b13 (by omega)
      replace ro := ro.chg b13 (by omega)
      replace yb1 := yb1.chg b13 (by omega)
      replace rg := rg.chg b13 (by omega)
      clear b13
      go_wp2_with (go_at_call 25; refine (markDeed_u (1 + n0) yb1 l1 (by omega)).mono ?_; rintro e w14 ⟨rfl, b14⟩)
      have s14 := b14.size
      clear yb1
      replace B := Below.chg B b14 (by omega)
      replace h0 := h0.chg b14 (by omega)
      replace h1 := h1.chg b14 (by omega)
      replace ro := ro.chg b14 (by omega)
      replace rg := rg.chg b14 (by omega)
      clear b14
      go_wp2_with (go_at_call 22; refine (eqInt_u rg.slc ro.slc rgl rol).mono ?_; rintro e w15 ⟨rfl, b15⟩; rw [HEQ.out])
      have s15 := b15.size
      replace B := below_step B b15
      replace h0 := h0.below b15
      replace h1 := h1.below b15
      replace ro := ro.below b15
      replace rg := rg.below b15
      clear b15
      go_wp2_with (go_at_call 24; refine (markInt_u 1 rg rgl (by omega)).mono ?_; rintro e w16 ⟨rfl, rm, b16⟩)
      have s16 := b16.size
      clear rg
      replace B := Below.chg B b16 (by omega)
      replace h0 := h0.chg b16 (by omega)
      replace h1 := h1.chg b16 (by omega)
      replace ro := ro.chg b16 (by omega)
      clear b16
      go_wp2_with (go_at_call 26; refine (heldInt_u 1 rm rgl (by omega)).mono ?_; rintro e w17 ⟨rfl, b17⟩)
      have s17 := b17.size
      replace B := below_step B b17
      replace h0 := h0.below b17
      replace h1 := h1.below b17
      replace ro := ro.below b17
      replace rm := rm.below b17
      clear b17
      go_wp2_with (go_at_call 19; refine (toInt_u h0 l0).mono ?_; rintro e w18 ⟨Yd0, dd0, rfl, yd0, b18⟩)
      have s18 := b18.size
      replace B := below_step B b18
      replace h0 := h0.below b18
      replace h1 := h1.below b18
      replace ro := ro.below b18
      replace rm := rm.below b18
      clear b18
      go_wp2_with (go_at_call 20; refine (toDeed_u h1 l1).mono ?_; rintro e w19 ⟨Yd1, dd1, rfl, yd1, b19⟩)
      have s19 := b19.size
      replace B := below_step B b19
      replace h0 := h0.below b19
      replace h1 := h1.below b19
      replace ro := ro.below b19
      replace rm := rm.below b19
      replace yd0 := yd0.below b19
      clear b19
      go_wp2_with (go_at_call 36; refine (impl_RefusedDeeds _ _ _ _ _ _ _ _ _ _ _ _ _ yd0.slc yd1.slc l0 l1 (HT.out.below B)).mono ?_; rintro e w20 ⟨rhA, rhn, rhc, rfl, rh, b20⟩)
      have s20 := b20.size
      rw [← HFF.out] at rh
      have rhl : rhn ≤ 1048576 := by have := rh.slc.len; have := HLEN.out; simp [ints] at *; omega
      replace B := below_step B b20
      replace h0 := h0.below b20
      replace h1 := h1.below b20
      replace ro := ro.below b20
      replace rm := rm.below b20
      replace yd0 := yd0.below b20
      replace yd1 := yd1.below b20
      clear b20
      go_wp2_with (go_at_call 22; refine (eqInt_u rh.slc ro.slc rhl rol).mono ?_; rintro e w21 ⟨rfl, b21⟩; rw [HEQ.out])
      have s21 := b21.size
      replace B := below_step B b21
      replace h0 := h0.below b21
      replace h1 := h1.below b21
      replace ro := ro.below b21
      replace rm := rm.below b21
      replace yd0 := yd0.below b21
      replace yd1 := yd1.below b21
      replace rh := rh.below b21
      clear b21
      go_wp2_with (go_at_call 26; refine (heldInt_u 1 rm rgl (by omega)).mono ?_; rintro e w22 ⟨rfl, b22⟩)
      have s22 := b22.size
      replace B := below_step B b22
      replace h0 := h0.below b22
      replace h1 := h1.below b22
      replace ro := ro.below b22
      replace rm := rm.below b22
      replace yd0 := yd0.below b22
      replace yd1 := yd1.below b22
      replace rh := rh.below b22
      clear b22
      go_wp2_with fail
      go_ret
      exact ⟨rfl, B⟩
end Go.Proofs.YtojnnemodikpeaaDoor
