/-
  The walk of the law: LeftIn answers as the reference does.
-/
import Derived.Test.YtojnnemodikpeaaDoorLeftO
namespace Go.Proofs.YtojnnemodikpeaaDoor
open Go.RowKit
set_option linter.unusedVariables false
set_option maxRecDepth 20000 in
set_option maxHeartbeats 2000000 in
theorem walk_LeftIn (n0 c0 : Nat) (A0 : Option Addr) (x0 : List Int) (n1 c1 : Nat) (A1 : Option Addr) (x1 : List DeedD) (w : World) (h0 : Slc w 0 w.heap.size 1 A0 n0 c0 (ints x0)) (h1 : Slc w 0 w.heap.size 3 A1 n1 c1 (deeds x1)) (q1 : ∀ d ∈ x1, d.act.size ≤ maxLen) (ht : TabW w) :
    Calls Tryd.prog 12 #[.slice A0 n0 c0, .slice A1 n1 c1] w fun e w' => e = .returned (.bool true) ∧ Below w.heap.size w w' := by
  obtain ⟨Z1, hZ1⟩ : ∃ z, z = szDeedN (1048576) n1 x1 := ⟨_, rfl⟩
  have z1le : 0 ≤ (1048576 : Int) → Z1 ≤ 1048576 := fun h => by rw [hZ1]; exact szDeedN_le h
  have HZ1 := Lib.hid hZ1
  clear hZ1
  by_cases e0 : 1048576 < n0
  · go_enter Tryd.func12, Tryd.ntmps12
    go_wp2_with fail
    go_ret
    exact ⟨rfl, Below.refl _ _⟩
  · skip
    by_cases e1 : Z1 < 0
    · go_enter Tryd.func12, Tryd.ntmps12
      have once0 : True := trivial
      go_wp2_with (go_at_call 17; clear once0; refine (szDeedS_any _ _ _ _ _ _ (1048576) _ h1 q1 (by omega) (by omega)).mono ?_; rintro e w1 ⟨rfl, b1⟩; rw [← HZ1.out])
      have s1 := b1.size
      have B := b1
      go_wp2_with fail
      go_ret
      exact ⟨rfl, B⟩
    · skip
      have l0 : n0 ≤ 1048576 := by omega
      have l1 : n1 ≤ 1048576 := (szDeedN_all (l := 1048576) (n := n1) (ds := x1) (by rw [← HZ1.out]; omega) (by omega)).1
      have HX0 := Lib.hid (beq_self_eq_true x0)
      have HX1 := Lib.hid (beq_self_eq_true x1)
      have HT := Lib.hid ht
      clear ht
      obtain ⟨F, hF⟩ : ∃ F, F = (leftF x0 x1).1 := ⟨_, rfl⟩
      obtain ⟨t, ht⟩ : ∃ t, t = (leftF x0 x1).2 := ⟨_, rfl⟩
      have HTT := Lib.hid ht
      clear ht
      have HEQ := Lib.hid (beq_self_eq_true F)
      have HFF := Lib.hid hF
      clear hF
      go_enter Tryd.func12, Tryd.ntmps12
      have once0 : True := trivial
      go_wp2_with (go_at_call 17; clear once0; refine (szDeedS_any _ _ _ _ _ _ (1048576) _ h1 q1 (by omega) (by omega)).mono ?_; rintro e w1 ⟨rfl, b1⟩; rw [← HZ1.out])
      have s1 := b1.size
      have B := b1
      replace h0 := h0.below b1
      replace h1 := h1.below b1
      clear b1
      have once1 : True := trivial
      go_wp2_with (go_at_call 19; clear once1; refine (toInt_u h0 l0).mono ?_; rintro e w2 ⟨Ya0, da0, rfl, ya0, b2⟩)
      have s2 := b2.size
      replace B := below_step B b2
      replace h0 := h0.below b2
      replace h1 := h1.below b2
      clear b2
      have once2 : True := trivial
      go_wp2_with (go_at_call 20; clear once2; refine (toDeed_u h1 l1).mono ?_; rintro e w3 ⟨Ya1, da1, rfl, ya1, b3⟩)
      have s3 := b3.size
      replace B := below_step B b3
      replace h0 := h0.below b3
      replace h1 := h1.below b3
      replace ya0 := ya0.below b3
      clear b3
      have once3 : True := trivial
      go_wp2_with (go_at_call 41; clear once3; refine (spec_LeftIn _ _ _ _ _ _ _ _ _ _ _ _ _ ya0.slc ya1.slc l0 l1).mono ?_; rintro e w4 ⟨roA, ron, roc, roq, rfl, ro, ros, rox, b4⟩; rw [← HTT.out])
      have s4 := b4.size
      have rol : ron ≤ 1048576 := by have := ro.length; have e := congrArg List.length rox; have := (leftF_small x0 x1).1; simp at *; omega
      rw [← HFF.out] at rox
      have roX := Lib.hid rox
      clear rox
      replace B := below_step B b4
      replace h0 := h0.below b4
      replace h1 := h1.below b4
      replace ya0 := ya0.below b4
      replace ya1 := ya1.below b4
      clear b4
      clear ya0
      clear ya1
      have once4 : True := trivial
      go_wp2_with (go_at_call 19; clear once4; refine (toInt_u h0 l0).mono ?_; rintro e w5 ⟨Yb0, db0, rfl, yb0, b5⟩)
      have s5 := b5.size
      replace B := below_step B b5
      replace h0 := h0.below b5
      replace h1 := h1.below b5
      replace ro := ro.below b5
      clear b5
      have once5 : True := trivial
      go_wp2_with (go_at_call 20; clear once5; refine (toDeed_u h1 l1).mono ?_; rintro e w6 ⟨Yb1, db1, rfl, yb1, b6⟩)
      have s6 := b6.size
      replace B := below_step B b6
      replace h0 := h0.below b6
      replace h1 := h1.below b6
      replace ro := ro.below b6
      replace yb0 := yb0.below b6
      clear b6
      have once6 : True := trivial
      go_wp2_with (go_at_call 30; clear once6; refine (impl_LeftIn _ _ _ _ _ _ _ _ _ _ _ _ _ yb0.slc yb1.slc l0 l1 (HT.out.below B)).mono ?_; rintro e w7 ⟨rgA, rgn, rgc, rgq, rgm, rfl, rgmlo, rgo, rgr, rgx, b7⟩; rw [← HTT.out])
      have s7 := b7.size
      have rgz := rows_small (fun r hr => (rgr.own r hr).slc) rgx
      have rgl : rgn ≤ 1048576 := by have := rgo.len; have := rgz.1; simp at *; omega
      have rgt : total rgq ≤ 1048576 := Nat.le_trans (total_small rgz.2) (by have := rgz.1; omega)
      have rgmm := rgr.le
      rw [← HFF.out] at rgx
      have rgX := Lib.hid rgx
      clear rgx
      replace B := below_step B b7
      replace h0 := h0.below b7
      replace h1 := h1.below b7
      replace ro := ro.below b7
      replace yb0 := yb0.below b7
      replace yb1 := yb1.below b7
      clear b7
      have once7 : True := trivial
      go_wp2_with (go_at_call 46; clear once7; refine (eqIntSS_u ⟨rgo, fun r hr => (rgr.own r hr).slc⟩ ro rgl rol (fun r hr => Nat.le_trans (rgz.2 r hr) (by omega)) ros).mono ?_; rintro e w8 ⟨rfl, b8⟩; rw [rgX.out, roX.out, HEQ.out])
      have s8 := b8.size
      replace B := below_step B b8
      replace h0 := h0.below b8
      replace h1 := h1.below b8
      replace ro := ro.below b8
      replace yb0 := yb0.below b8
      replace yb1 := yb1.below b8
      replace rgo := rgo.below b8
      replace rgr := rgr.below b8
      clear b8
      have once8 : True := trivial
      go_wp2_with (go_at_call 19; clear once8; refine (toInt_u h0 l0).mono ?_; rintro e w9 ⟨Yc0, dc0, rfl, yc0, b9⟩)
      have s9 := b9.size
      replace B := below_step B b9
      replace h0 := h0.below b9
      replace h1 := h1.below b9
      replace ro := ro.below b9
      replace yb0 := yb0.below b9
      replace yb1 := yb1.below b9
      replace rgo := rgo.below b9
      replace rgr := rgr.below b9
      clear b9
      have once9 : True := trivial
      go_wp2_with (go_at_call 22; clear once9; refine (eqInt_u yb0.slc yc0.slc l0 l0).mono ?_; rintro e w10 ⟨rfl, b10⟩; rw [HX0.out])
      have s10 := b10.size
      replace B := below_step B b10
      replace h0 := h0.below b10
      replace h1 := h1.below b10
      replace ro := ro.below b10
      replace yb0 := yb0.below b10
      replace yb1 := yb1.below b10
      replace rgo := rgo.below b10
      replace rgr := rgr.below b10
      clear b10 yc0
      have once10 : True := trivial
      go_wp2_with (go_at_call 20; clear once10; refine (toDeed_u h1 l1).mono ?_; rintro e w11 ⟨Yc1, dc1, rfl, yc1, b11⟩)
      have s11 := b11.size
      replace B := below_step B b11
      replace h0 := h0.below b11
      replace h1 := h1.below b11
      replace ro := ro.below b11
      replace yb0 := yb0.below b11
      replace yb1 := yb1.below b11
      replace rgo := rgo.below b11
      replace rgr := rgr.below b11
      clear b11
      have once11 : True := trivial
      go_wp2_with (go_at_call 23; clear once11; refine (eqDeed_u yb1.slc yc1.slc l1 l1).mono ?_; rintro e w12 ⟨rfl, b12⟩; rw [HX1.out])
      have s12 := b12.size
      replace B := below_step B b12
      replace h0 := h0.below b12
      replace h1 := h1.below b12
      replace ro := ro.below b12
      replace yb0 := yb0.below b12
      replace yb1 := yb1.below b12
      replace rgo := rgo.below b12
      replace rgr := rgr.below b12
      clear b12 yc1
      have once12 : True := trivial
      go_wp2_with (go_at_call 24; clear once12; refine (markInt_u (1) yb0 l0 (by omega)).mono ?_; rintro e w13 ⟨rfl, m0, b13⟩)
      have s13 := b13.size
      clear yb0 m0
      replace B := Below.chg B b13 (by omega)
      replace h0 := h0.chg b13 (by omega)
      replace h1 := h1.chg b13 (by omega)
      replace ro := ro.chg b13 (by omega) (by omega)
      replace yb1 := yb1.chg b13 (by omega)
      replace rgo := rgo.chg b13 (by omega)
      replace rgr := rgr.chg b13 (by omega)
      clear b13
      have once13 : True := trivial
      go_wp2_with (go_at_call 25; clear once13; refine (markDeed_u (1 + n0) yb1 l1 (by omega)).mono ?_; rintro e w14 ⟨rfl, b14⟩)
      have s14 := b14.size
      clear yb1
      replace B := Below.chg B b14 (by omega)
      replace h0 := h0.chg b14 (by omega)
      replace h1 := h1.chg b14 (by omega)
      replace ro := ro.chg b14 (by omega) (by omega)
      replace rgo := rgo.chg b14 (by omega)
      replace rgr := rgr.chg b14 (by omega)
      clear b14
      have once14 : True := trivial
      go_wp2_with (go_at_call 46; clear once14; refine (eqIntSS_u ⟨rgo, fun r hr => (rgr.own r hr).slc⟩ ro rgl rol (fun r hr => Nat.le_trans (rgz.2 r hr) (by omega)) ros).mono ?_; rintro e w15 ⟨rfl, b15⟩; rw [rgX.out, roX.out, HEQ.out])
      have s15 := b15.size
      replace B := below_step B b15
      replace h0 := h0.below b15
      replace h1 := h1.below b15
      replace ro := ro.below b15
      replace rgo := rgo.below b15
      replace rgr := rgr.below b15
      clear b15
      have once15 : True := trivial
      go_wp2_with (go_at_call 47; clear once15; refine (markIntSS_rows _ _ _ _ _ _ _ rgq 1 _ rgo rgr (.inl (Nat.le_refl _)) rgl (fun r hr => Nat.le_trans (rgz.2 r hr) (by omega)) rgt (by omega) (by omega)).mono ?_; rintro e w16 ⟨rfl, b16, rm⟩)
      have s16 := b16.size
      clear rgr
      replace B := Below.chg B b16 (by omega)
      have rgo2 := rgo.chg b16 (.inl (Nat.le_refl _))
      clear rgo
      replace h0 := h0.chg b16 (by omega)
      replace h1 := h1.chg b16 (by omega)
      replace ro := ro.chg b16 (by omega) (by omega)
      clear b16
      have once16 : True := trivial
      go_wp2_with (go_at_call 48; clear once16; refine (heldIntSS_u (k0 := 1) rgo2 rm rgl (fun r hr => Nat.le_trans (rgz.2 r hr) (by omega)) rgt (by omega) (by omega)).mono ?_; rintro e w17 ⟨rfl, b17⟩)
      have s17 := b17.size
      replace B := below_step B b17
      replace h0 := h0.below b17
      replace h1 := h1.below b17
      replace ro := ro.below b17
      replace rm := rm.below b17
      replace rgo2 := rgo2.below b17
      clear b17
      have once17 : True := trivial
      go_wp2_with (go_at_call 19; clear once17; refine (toInt_u h0 l0).mono ?_; rintro e w18 ⟨Yd0, dd0, rfl, yd0, b18⟩)
      have s18 := b18.size
      replace B := below_step B b18
      replace h0 := h0.below b18
      replace h1 := h1.below b18
      replace ro := ro.below b18
      replace rm := rm.below b18
      replace rgo2 := rgo2.below b18
      clear b18
      have once18 : True := trivial
      go_wp2_with (go_at_call 20; clear once18; refine (toDeed_u h1 l1).mono ?_; rintro e w19 ⟨Yd1, dd1, rfl, yd1, b19⟩)
      have s19 := b19.size
      replace B := below_step B b19
      replace h0 := h0.below b19
      replace h1 := h1.below b19
      replace ro := ro.below b19
      replace rm := rm.below b19
      replace rgo2 := rgo2.below b19
      replace yd0 := yd0.below b19
      clear b19
      have once19 : True := trivial
      go_wp2_with (go_at_call 30; clear once19; refine (impl_LeftIn _ _ _ _ _ _ _ _ _ _ _ _ _ yd0.slc yd1.slc l0 l1 (HT.out.below B)).mono ?_; rintro e w20 ⟨rhA, rhn, rhc, rhq, rhm, rfl, rhmlo, rho, rhr, rhx, b20⟩; rw [← HTT.out])
      have s20 := b20.size
      have rhz := rows_small (fun r hr => (rhr.own r hr).slc) rhx
      have rhl : rhn ≤ 1048576 := by have := rho.len; have := rhz.1; simp at *; omega
      have rht : total rhq ≤ 1048576 := Nat.le_trans (total_small rhz.2) (by have := rhz.1; omega)
      have rhmm := rhr.le
      rw [← HFF.out] at rhx
      have rhX := Lib.hid rhx
      clear rhx
      replace B := below_step B b20
      replace h0 := h0.below b20
      replace h1 := h1.below b20
      replace ro := ro.below b20
      replace rm := rm.below b20
      replace rgo2 := rgo2.below b20
      replace yd0 := yd0.below b20
      replace yd1 := yd1.below b20
      clear b20
      have once20 : True := trivial
      go_wp2_with (go_at_call 46; clear once20; refine (eqIntSS_u ⟨rho, fun r hr => (rhr.own r hr).slc⟩ ro rhl rol (fun r hr => Nat.le_trans (rhz.2 r hr) (by omega)) ros).mono ?_; rintro e w21 ⟨rfl, b21⟩; rw [rhX.out, roX.out, HEQ.out])
      have s21 := b21.size
      replace B := below_step B b21
      replace h0 := h0.below b21
      replace h1 := h1.below b21
      replace ro := ro.below b21
      replace rm := rm.below b21
      replace rgo2 := rgo2.below b21
      replace yd0 := yd0.below b21
      replace yd1 := yd1.below b21
      replace rho := rho.below b21
      replace rhr := rhr.below b21
      clear b21
      have once21 : True := trivial
      go_wp2_with (go_at_call 48; clear once21; refine (heldIntSS_u (k0 := 1) rgo2 rm rgl (fun r hr => Nat.le_trans (rgz.2 r hr) (by omega)) rgt (by omega) (by omega)).mono ?_; rintro e w22 ⟨rfl, b22⟩)
      have s22 := b22.size
      replace B := below_step B b22
      replace h0 := h0.below b22
      replace h1 := h1.below b22
      replace ro := ro.below b22
      replace rm := rm.below b22
      replace rgo2 := rgo2.below b22
      replace yd0 := yd0.below b22
      replace yd1 := yd1.below b22
      replace rho := rho.below b22
      replace rhr := rhr.below b22
      clear b22
      go_wp2_with fail
      go_ret
      exact ⟨rfl, B⟩
end Go.Proofs.YtojnnemodikpeaaDoor
