/-
  The walk of the law: ReadyEntries answers as the reference does.
-/
import Derived.Test.YtojnnemodikpeaaDoorLens2
namespace Go.Proofs.YtojnnemodikpeaaDoor
open Go.RowKit
set_option linter.unusedVariables false
set_option maxRecDepth 20000 in
set_option maxHeartbeats 2000000 in
theorem walk_ReadyEntries (n0 c0 : Nat) (A0 : Option Addr) (x0 : List Int) (n1 c1 : Nat) (A1 : Option Addr) (x1 : List DeedD) (n2 c2 : Nat) (A2 : Option Addr) (x2 : List DeedD) (w : World) (h0 : Slc w 0 w.heap.size 1 A0 n0 c0 (ints x0)) (h1 : Slc w 0 w.heap.size 3 A1 n1 c1 (deeds x1)) (q1 : ∀ d ∈ x1, d.act.size ≤ maxLen) (h2 : Slc w 0 w.heap.size 3 A2 n2 c2 (deeds x2)) (q2 : ∀ d ∈ x2, d.act.size ≤ maxLen) (ht : TabW w) :
    Calls Tryd.prog 14 #[.slice A0 n0 c0, .slice A1 n1 c1, .slice A2 n2 c2] w fun e w' => e = .returned (.bool true) ∧ Below w.heap.size w w' := by
  obtain ⟨Z1, hZ1⟩ : ∃ z, z = szDeedN (1048576) n1 x1 := ⟨_, rfl⟩
  have z1le : 0 ≤ (1048576 : Int) → Z1 ≤ 1048576 := fun h => by rw [hZ1]; exact szDeedN_le h
  have HZ1 := Lib.hid hZ1
  clear hZ1
  obtain ⟨Z2, hZ2⟩ : ∃ z, z = szDeedN (Z1) n2 x2 := ⟨_, rfl⟩
  have z2le : 0 ≤ (Z1 : Int) → Z2 ≤ Z1 := fun h => by rw [hZ2]; exact szDeedN_le h
  have HZ2 := Lib.hid hZ2
  clear hZ2
  by_cases e0 : 1048576 < n0
  · go_enter Tryd.func14, Tryd.ntmps14
    go_wp2_with fail
    go_ret
    exact ⟨rfl, Below.refl _ _⟩
  · skip
    by_cases e1 : Z1 < 0
    · go_enter Tryd.func14, Tryd.ntmps14
      have once0 : True := trivial
      go_wp2_with (go_at_call 17; clear once0; refine (szDeedS_any _ _ _ _ _ _ (1048576) _ h1 q1 (by omega) (by omega)).mono ?_; rintro e w1 ⟨rfl, b1⟩; rw [← HZ1.out])
      have s1 := b1.size
      have B := b1
      go_wp2_with fail
      go_ret
      exact ⟨rfl, B⟩
    · skip
      by_cases e2 : Z2 < 0
      · go_enter Tryd.func14, Tryd.ntmps14
        have once0 : True := trivial
        go_wp2_with (go_at_call 17; clear once0; refine (szDeedS_any _ _ _ _ _ _ (1048576) _ h1 q1 (by omega) (by omega)).mono ?_; rintro e w1 ⟨rfl, b1⟩; rw [← HZ1.out])
        have s1 := b1.size
        have B := b1
        have once1 : True := trivial
        go_wp2_with (go_at_call 17; clear once1; refine (szDeedS_any _ _ _ _ _ _ (Z1) _ (h2.below B) q2 (by omega) (by omega)).mono ?_; rintro e w2 ⟨rfl, b2⟩; rw [← HZ2.out])
        have s2 := b2.size
        replace B := below_step B b2
        go_wp2_with fail
        go_ret
        exact ⟨rfl, B⟩
      · skip
        have l0 : n0 ≤ 1048576 := by omega
        have l1 : n1 ≤ 1048576 := (szDeedN_all (l := 1048576) (n := n1) (ds := x1) (by rw [← HZ1.out]; omega) (by omega)).1
        have l2 : n2 ≤ 1048576 := (szDeedN_all (l := Z1) (n := n2) (ds := x2) (by rw [← HZ2.out]; omega) (by omega)).1
        have HX0 := Lib.hid (beq_self_eq_true x0)
        have HX1 := Lib.hid (beq_self_eq_true x1)
        have HX2 := Lib.hid (beq_self_eq_true x2)
        have HT := Lib.hid ht
        clear ht
        obtain ⟨F, hF⟩ : ∃ F, F = (readyEF x0 x1 x2).1 := ⟨_, rfl⟩
        obtain ⟨t, ht⟩ : ∃ t, t = (readyEF x0 x1 x2).2 := ⟨_, rfl⟩
        have HTT := Lib.hid ht
        clear ht
        have HEQ := Lib.hid (beq_self_eq_true F)
        have HFF := Lib.hid hF
        clear hF
        go_enter Tryd.func14, Tryd.ntmps14
        have once0 : True := trivial
        go_wp2_with (go_at_call 17; clear once0; refine (szDeedS_any _ _ _ _ _ _ (1048576) _ h1 q1 (by omega) (by omega)).mono ?_; rintro e w1 ⟨rfl, b1⟩; rw [← HZ1.out])
        have s1 := b1.size
        have B := b1
        replace h0 := h0.below b1
        replace h1 := h1.below b1
        replace h2 := h2.below b1
        clear b1
        have once1 : True := trivial
        go_wp2_with (go_at_call 17; clear once1; refine (szDeedS_any _ _ _ _ _ _ (Z1) _ h2 q2 (by omega) (by omega)).mono ?_; rintro e w2 ⟨rfl, b2⟩; rw [← HZ2.out])
        have s2 := b2.size
        replace B := below_step B b2
        replace h0 := h0.below b2
        replace h1 := h1.below b2
        replace h2 := h2.below b2
        clear b2
        have HLEN := Lib.hid (show F.length ≤ 1048576 by rw [HFF.out]; exact readyEF_len2 _ _ _)
        have once2 : True := trivial
        go_wp2_with (go_at_call 19; clear once2; refine (toInt_u h0 l0).mono ?_; rintro e w3 ⟨Ya0, da0, rfl, ya0, b3⟩)
        have s3 := b3.size
        replace B := below_step B b3
        replace h0 := h0.below b3
        replace h1 := h1.below b3
        replace h2 := h2.below b3
        clear b3
        have once3 : True := trivial
        go_wp2_with (go_at_call 20; clear once3; refine (toDeed_u h1 l1).mono ?_; rintro e w4 ⟨Ya1, da1, rfl, ya1, b4⟩)
        have s4 := b4.size
        replace B := below_step B b4
        replace h0 := h0.below b4
        replace h1 := h1.below b4
        replace h2 := h2.below b4
        replace ya0 := ya0.below b4
        clear b4
        have once4 : True := trivial
        go_wp2_with (go_at_call 20; clear once4; refine (toDeed_u h2 l2).mono ?_; rintro e w5 ⟨Ya2, da2, rfl, ya2, b5⟩)
        have s5 := b5.size
        replace B := below_step B b5
        replace h0 := h0.below b5
        replace h1 := h1.below b5
        replace h2 := h2.below b5
        replace ya0 := ya0.below b5
        replace ya1 := ya1.below b5
        clear b5
        have once5 : True := trivial
        go_wp2_with (go_at_call 51; clear once5; refine (spec_ReadyEntries _ _ _ _ _ _ _ _ _ _ _ _ _ _ _ _ _ _ _ ya0.slc ya1.slc ya2.slc l0 l1 l2).mono ?_; rintro e w6 ⟨roA, ron, roc, rfl, ro, b6⟩; rw [← HTT.out])
        have s6 := b6.size
        rw [← HFF.out] at ro
        have rol : ron ≤ 1048576 := by have := ro.slc.len; have := HLEN.out; simp [ints] at *; omega
        replace B := below_step B b6
        replace h0 := h0.below b6
        replace h1 := h1.below b6
        replace h2 := h2.below b6
        replace ya0 := ya0.below b6
        replace ya1 := ya1.below b6
        replace ya2 := ya2.below b6
        clear b6
        clear ya0
        clear ya1
        clear ya2
        have once6 : True := trivial
        go_wp2_with (go_at_call 19; clear once6; refine (toInt_u h0 l0).mono ?_; rintro e w7 ⟨Yb0, db0, rfl, yb0, b7⟩)
        have s7 := b7.size
        replace B := below_step B b7
        replace h0 := h0.below b7
        replace h1 := h1.below b7
        replace h2 := h2.below b7
        replace ro := ro.below b7
        clear b7
        have once7 : True := trivial
        go_wp2_with (go_at_call 20; clear once7; refine (toDeed_u h1 l1).mono ?_; rintro e w8 ⟨Yb1, db1, rfl, yb1, b8⟩)
        have s8 := b8.size
        replace B := below_step B b8
        replace h0 := h0.below b8
        replace h1 := h1.below b8
        replace h2 := h2.below b8
        replace ro := ro.below b8
        replace yb0 := yb0.below b8
        clear b8
        have once8 : True := trivial
        go_wp2_with (go_at_call 20; clear once8; refine (toDeed_u h2 l2).mono ?_; rintro e w9 ⟨Yb2, db2, rfl, yb2, b9⟩)
        have s9 := b9.size
        replace B := below_step B b9
        replace h0 := h0.below b9
        replace h1 := h1.below b9
        replace h2 := h2.below b9
        replace ro := ro.below b9
        replace yb0 := yb0.below b9
        replace yb1 := yb1.below b9
        clear b9
        have once9 : True := trivial
        go_wp2_with (go_at_call 52; clear once9; refine (impl_ReadyEntries _ _ _ _ _ _ _ _ _ _ _ _ _ _ _ _ _ _ _ yb0.slc yb1.slc yb2.slc l0 l1 l2 (HT.out.below B)).mono ?_; rintro e w10 ⟨rgA, rgn, rgc, rfl, rg, b10⟩; rw [← HTT.out])
        have s10 := b10.size
        rw [← HFF.out] at rg
        have rgl : rgn ≤ 1048576 := by have := rg.slc.len; have := HLEN.out; simp [ints] at *; omega
        replace B := below_step B b10
        replace h0 := h0.below b10
        replace h1 := h1.below b10
        replace h2 := h2.below b10
        replace ro := ro.below b10
        replace yb0 := yb0.below b10
        replace yb1 := yb1.below b10
        replace yb2 := yb2.below b10
        clear b10
        have once10 : True := trivial
        go_wp2_with (go_at_call 22; clear once10; refine (eqInt_u rg.slc ro.slc rgl rol).mono ?_; rintro e w11 ⟨rfl, b11⟩; rw [HEQ.out])
        have s11 := b11.size
        replace B := below_step B b11
        replace h0 := h0.below b11
        replace h1 := h1.below b11
        replace h2 := h2.below b11
        replace ro := ro.below b11
        replace yb0 := yb0.below b11
        replace yb1 := yb1.below b11
        replace yb2 := yb2.below b11
        replace rg := rg.below b11
        clear b11
        have once11 : True := trivial
        go_wp2_with (go_at_call 19; clear once11; refine (toInt_u h0 l0).mono ?_; rintro e w12 ⟨Yc0, dc0, rfl, yc0, b12⟩)
        have s12 := b12.size
        replace B := below_step B b12
        replace h0 := h0.below b12
        replace h1 := h1.below b12
        replace h2 := h2.below b12
        replace ro := ro.below b12
        replace yb0 := yb0.below b12
        replace yb1 := yb1.below b12
        replace yb2 := yb2.below b12
        replace rg := rg.below b12
        clear b12
        have once12 : True := trivial
        go_wp2_with (go_at_call 22; clear once12; refine (eqInt_u yb0.slc yc0.slc l0 l0).mono ?_; rintro e w13 ⟨rfl, b13⟩; rw [HX0.out])
        have s13 := b13.size
        replace B := below_step B b13
        replace h0 := h0.below b13
        replace h1 := h1.below b13
        replace h2 := h2.below b13
        replace ro := ro.below b13
        replace yb0 := yb0.below b13
        replace yb1 := yb1.below b13
        replace yb2 := yb2.below b13
        replace rg := rg.below b13
        clear b13 yc0
        have once13 : True := trivial
        go_wp2_with (go_at_call 20; clear once13; refine (toDeed_u h1 l1).mono ?_; rintro e w14 ⟨Yc1, dc1, rfl, yc1, b14⟩)
        have s14 := b14.size
        replace B := below_step B b14
        replace h0 := h0.below b14
        replace h1 := h1.below b14
        replace h2 := h2.below b14
        replace ro := ro.below b14
        replace yb0 := yb0.below b14
        replace yb1 := yb1.below b14
        replace yb2 := yb2.below b14
        replace rg := rg.below b14
        clear b14
        have once14 : True := trivial
        go_wp2_with (go_at_call 23; clear once14; refine (eqDeed_u yb1.slc yc1.slc l1 l1).mono ?_; rintro e w15 ⟨rfl, b15⟩; rw [HX1.out])
        have s15 := b15.size
        replace B := below_step B b15
        replace h0 := h0.below b15
        replace h1 := h1.below b15
        replace h2 := h2.below b15
        replace ro := ro.below b15
        replace yb0 := yb0.below b15
        replace yb1 := yb1.below b15
        replace yb2 := yb2.below b15
        replace rg := rg.below b15
        clear b15 yc1
        have once15 : True := trivial
        go_wp2_with (go_at_call 20; clear once15; refine (toDeed_u h2 l2).mono ?_; rintro e w16 ⟨Yc2, dc2, rfl, yc2, b16⟩)
        have s16 := b16.size
        replace B := below_step B b16
        replace h0 := h0.below b16
        replace h1 := h1.below b16
        replace h2 := h2.below b16
        replace ro := ro.below b16
        replace yb0 := yb0.below b16
        replace yb1 := yb1.below b16
        replace yb2 := yb2.below b16
        replace rg := rg.below b16
        clear b16
        have once16 : True := trivial
        go_wp2_with (go_at_call 23; clear once16; refine (eqDeed_u yb2.slc yc2.slc l2 l2).mono ?_; rintro e w17 ⟨rfl, b17⟩; rw [HX2.out])
        have s17 := b17.size
        replace B := below_step B b17
        replace h0 := h0.below b17
        replace h1 := h1.below b17
        replace h2 := h2.below b17
        replace ro := ro.below b17
        replace yb0 := yb0.below b17
        replace yb1 := yb1.below b17
        replace yb2 := yb2.below b17
        replace rg := rg.below b17
        clear b17 yc2
        have once17 : True := trivial
        go_wp2_with (go_at_call 24; clear once17; refine (markInt_u (1) yb0 l0 (by omega)).mono ?_; rintro e w18 ⟨rfl, m0, b18⟩)
        have s18 := b18.size
        clear yb0 m0
        replace B := Below.chg B b18 (by omega)
        replace h0 := h0.chg b18 (by omega)
        replace h1 := h1.chg b18 (by omega)
        replace h2 := h2.chg b18 (by omega)
        replace ro := ro.chg b18 (by omega)
        replace yb1 := yb1.chg b18 (by omega)
        replace yb2 := yb2.chg b18 (by omega)
        replace rg := rg.chg b18 (by omega)
        clear b18
        have once18 : True := trivial
        go_wp2_with (go_at_call 25; clear once18; refine (markDeed_u (1 + n0) yb1 l1 (by omega)).mono ?_; rintro e w19 ⟨rfl, b19⟩)
        have s19 := b19.size
        clear yb1
        replace B := Below.chg B b19 (by omega)
        replace h0 := h0.chg b19 (by omega)
        replace h1 := h1.chg b19 (by omega)
        replace h2 := h2.chg b19 (by omega)
        replace ro := ro.chg b19 (by omega)
        replace yb2 := yb2.chg b19 (by omega)
        replace rg := rg.chg b19 (by omega)
        clear b19
        have once19 : True := trivial
        go_wp2_with (go_at_call 25; clear once19; refine (markDeed_u (1 + n0 + 3 * n1) yb2 l2 (by omega)).mono ?_; rintro e w20 ⟨rfl, b20⟩)
        have s20 := b20.size
        clear yb2
        replace B := Below.chg B b20 (by omega)
        replace h0 := h0.chg b20 (by omega)
        replace h1 := h1.chg b20 (by omega)
        replace h2 := h2.chg b20 (by omega)
        replace ro := ro.chg b20 (by omega)
        replace rg := rg.chg b20 (by omega)
        clear b20
        have once20 : True := trivial
        go_wp2_with (go_at_call 22; clear once20; refine (eqInt_u rg.slc ro.slc rgl rol).mono ?_; rintro e w21 ⟨rfl, b21⟩; rw [HEQ.out])
        have s21 := b21.size
        replace B := below_step B b21
        replace h0 := h0.below b21
        replace h1 := h1.below b21
        replace h2 := h2.below b21
        replace ro := ro.below b21
        replace rg := rg.below b21
        clear b21
        have once21 : True := trivial
        go_wp2_with (go_at_call 24; clear once21; refine (markInt_u 1 rg rgl (by omega)).mono ?_; rintro e w22 ⟨rfl, rm, b22⟩)
        have s22 := b22.size
        clear rg
        replace B := Below.chg B b22 (by omega)
        replace h0 := h0.chg b22 (by omega)
        replace h1 := h1.chg b22 (by omega)
        replace h2 := h2.chg b22 (by omega)
        replace ro := ro.chg b22 (by omega)
        clear b22
        have once22 : True := trivial
        go_wp2_with (go_at_call 26; clear once22; refine (heldInt_u 1 rm rgl (by omega)).mono ?_; rintro e w23 ⟨rfl, b23⟩)
        have s23 := b23.size
        replace B := below_step B b23
        replace h0 := h0.below b23
        replace h1 := h1.below b23
        replace h2 := h2.below b23
        replace ro := ro.below b23
        replace rm := rm.below b23
        clear b23
        have once23 : True := trivial
        go_wp2_with (go_at_call 19; clear once23; refine (toInt_u h0 l0).mono ?_; rintro e w24 ⟨Yd0, dd0, rfl, yd0, b24⟩)
        have s24 := b24.size
        replace B := below_step B b24
        replace h0 := h0.below b24
        replace h1 := h1.below b24
        replace h2 := h2.below b24
        replace ro := ro.below b24
        replace rm := rm.below b24
        clear b24
        have once24 : True := trivial
        go_wp2_with (go_at_call 20; clear once24; refine (toDeed_u h1 l1).mono ?_; rintro e w25 ⟨Yd1, dd1, rfl, yd1, b25⟩)
        have s25 := b25.size
        replace B := below_step B b25
        replace h0 := h0.below b25
        replace h1 := h1.below b25
        replace h2 := h2.below b25
        replace ro := ro.below b25
        replace rm := rm.below b25
        replace yd0 := yd0.below b25
        clear b25
        have once25 : True := trivial
        go_wp2_with (go_at_call 20; clear once25; refine (toDeed_u h2 l2).mono ?_; rintro e w26 ⟨Yd2, dd2, rfl, yd2, b26⟩)
        have s26 := b26.size
        replace B := below_step B b26
        replace h0 := h0.below b26
        replace h1 := h1.below b26
        replace h2 := h2.below b26
        replace ro := ro.below b26
        replace rm := rm.below b26
        replace yd0 := yd0.below b26
        replace yd1 := yd1.below b26
        clear b26
        have once26 : True := trivial
        go_wp2_with (go_at_call 52; clear once26; refine (impl_ReadyEntries _ _ _ _ _ _ _ _ _ _ _ _ _ _ _ _ _ _ _ yd0.slc yd1.slc yd2.slc l0 l1 l2 (HT.out.below B)).mono ?_; rintro e w27 ⟨rhA, rhn, rhc, rfl, rh, b27⟩; rw [← HTT.out])
        have s27 := b27.size
        rw [← HFF.out] at rh
        have rhl : rhn ≤ 1048576 := by have := rh.slc.len; have := HLEN.out; simp [ints] at *; omega
        replace B := below_step B b27
        replace h0 := h0.below b27
        replace h1 := h1.below b27
        replace h2 := h2.below b27
        replace ro := ro.below b27
        replace rm := rm.below b27
        replace yd0 := yd0.below b27
        replace yd1 := yd1.below b27
        replace yd2 := yd2.below b27
        clear b27
        have once27 : True := trivial
        go_wp2_with (go_at_call 22; clear once27; refine (eqInt_u rh.slc ro.slc rhl rol).mono ?_; rintro e w28 ⟨rfl, b28⟩; rw [HEQ.out])
        have s28 := b28.size
        replace B := below_step B b28
        replace h0 := h0.below b28
        replace h1 := h1.below b28
        replace h2 := h2.below b28
        replace ro := ro.below b28
        replace rm := rm.below b28
        replace yd0 := yd0.below b28
        replace yd1 := yd1.below b28
        replace yd2 := yd2.below b28
        replace rh := rh.below b28
        clear b28
        have once28 : True := trivial
        go_wp2_with (go_at_call 26; clear once28; refine (heldInt_u 1 rm rgl (by omega)).mono ?_; rintro e w29 ⟨rfl, b29⟩)
        have s29 := b29.size
        replace B := below_step B b29
        replace h0 := h0.below b29
        replace h1 := h1.below b29
        replace h2 := h2.below b29
        replace ro := ro.below b29
        replace rm := rm.below b29
        replace yd0 := yd0.below b29
        replace yd1 := yd1.below b29
        replace yd2 := yd2.below b29
        replace rh := rh.below b29
        clear b29
        go_wp2_with fail
        go_ret
        exact ⟨rfl, B⟩
end Go.Proofs.YtojnnemodikpeaaDoor
