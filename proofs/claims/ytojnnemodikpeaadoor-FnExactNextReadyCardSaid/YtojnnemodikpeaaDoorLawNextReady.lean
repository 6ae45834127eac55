/-
  The walk of the law: NextReady answers as the reference does.
-/
import Derived.Test.YtojnnemodikpeaaDoorLens2
namespace Go.Proofs.YtojnnemodikpeaaDoor
open Go.RowKit
set_option linter.unusedVariables false
set_option maxRecDepth 20000 in
set_option maxHeartbeats 2000000 in
theorem walk_NextReady (n0 c0 : Nat) (A0 : Option Addr) (x0 : List Int) (n1 c1 : Nat) (A1 : Option Addr) (x1 : List DeedD) (n2 c2 : Nat) (A2 : Option Addr) (x2 : List DeedD) (z3 : Int) (w : World) (h0 : Slc w 0 w.heap.size 1 A0 n0 c0 (ints x0)) (h1 : Slc w 0 w.heap.size 3 A1 n1 c1 (deeds x1)) (q1 : ∀ d ∈ x1, d.act.size ≤ maxLen) (h2 : Slc w 0 w.heap.size 3 A2 n2 c2 (deeds x2)) (q2 : ∀ d ∈ x2, d.act.size ≤ maxLen) (ht : TabW w) :
    Calls Tryd.prog 13 #[.slice A0 n0 c0, .slice A1 n1 c1, .slice A2 n2 c2, .int .i64 z3] w fun e w' => e = .returned (.bool true) ∧ Below w.heap.size w w' := by
  obtain ⟨Z1, hZ1⟩ : ∃ z, z = szDeedN (1048576) n1 x1 := ⟨_, rfl⟩
  have z1le : 0 ≤ (1048576 : Int) → Z1 ≤ 1048576 := fun h => by rw [hZ1]; exact szDeedN_le h
  have HZ1 := Lib.hid hZ1
  clear hZ1
  obtain ⟨Z2, hZ2⟩ : ∃ z, z = szDeedN (Z1) n2 x2 := ⟨_, rfl⟩
  have z2le : 0 ≤ (Z1 : Int) → Z2 ≤ Z1 := fun h => by rw [hZ2]; exact szDeedN_le h
  have HZ2 := Lib.hid hZ2
  clear hZ2
  by_cases e0 : 1048576 < n0
  · go_enter Tryd.func13, Tryd.ntmps13
    go_wp2_with fail
    go_ret
    exact ⟨rfl, Below.refl _ _⟩
  · skip
    by_cases e1 : Z1 < 0
    · go_enter Tryd.func13, Tryd.ntmps13
      have once0 : True := trivial
      go_wp2_with (go_at_call 17; clear once0; refine (szDeedS_any _ _ _ _ _ _ (1048576) _ h1 q1 (by omega) (by omega)).mono ?_; rintro e w1 ⟨rfl, b1⟩; rw [← HZ1.out])
      have s1 := b1.size
      have B := b1
      go_wp2_with fail
      go_ret
      exact ⟨rfl, B⟩
    · skip
      by_cases e2 : Z2 < 0
      · go_enter Tryd.func13, Tryd.ntmps13
        have once0 : True := trivial
        go_wp2_with (go_at_call 17; clear once0; refine (szDeedS_any _ _ _ _ _ _ (1048576) _ h1 q1 (by omega) (by omega)).mono ?_; rintro e w1 ⟨rfl, b1⟩; rw [← HZ1.out])
        have s1 := b1.size
        have B := b1
        have once1 : True := trivial
        go_wp2_with (go_at_call 17; clear once1; refine (szDeedS_any _ _ _ _ _ _ (Z1) _ (h2.below B) q2 (by omega) (by omega)).mono ?_; rintro e w2 ⟨rfl, b2⟩; rw [← HZ2.out])
        have s2 := b2.size
        replace B := below_step B b2
        go_wp2_with fail
        go_ret
        exact ⟨rfl, B⟩
      · skip
        have l0 : n0 ≤ 1048576 := by omega
        have l1 : n1 ≤ 1048576 := (szDeedN_all (l := 1048576) (n := n1) (ds := x1) (by rw [← HZ1.out]; omega) (by omega)).1
        have l2 : n2 ≤ 1048576 := (szDeedN_all (l := Z1) (n := n2) (ds := x2) (by rw [← HZ2.out]; omega) (by omega)).1
        have HX0 := Lib.hid (beq_self_eq_true x0)
        have HX1 := Lib.hid (beq_self_eq_true x1)
        have HX2 := Lib.hid (beq_self_eq_true x2)
        have HT := Lib.hid ht
        clear ht
        obtain ⟨F, hF⟩ : ∃ F, F = (nextRF x0 x1 x2 z3) := ⟨_, rfl⟩
        have HFF := Lib.hid hF
        clear hF
        go_enter Tryd.func13, Tryd.ntmps13
        have once0 : True := trivial
        go_wp2_with (go_at_call 17; clear once0; refine (szDeedS_any _ _ _ _ _ _ (1048576) _ h1 q1 (by omega) (by omega)).mono ?_; rintro e w1 ⟨rfl, b1⟩; rw [← HZ1.out])
        have s1 := b1.size
        have B := b1
        replace h0 := h0.below b1
        replace h1 := h1.below b1
        replace h2 := h2.below b1
        clear b1
        have once1 : True := trivial
        go_wp2_with (go_at_call 17; clear once1; refine (szDeedS_any _ _ _ _ _ _ (Z1) _ h2 q2 (by omega) (by omega)).mono ?_; rintro e w2 ⟨rfl, b2⟩; rw [← HZ2.out])
        have s2 := b2.size
        replace B := below_step B b2
        replace h0 := h0.below b2
        replace h1 := h1.below b2
        replace h2 := h2.below b2
        clear b2
        have once2 : True := trivial
        go_wp2_with (go_at_call 19; clear once2; refine (toInt_u h0 l0).mono ?_; rintro e w3 ⟨Ya0, da0, rfl, ya0, b3⟩)
        have s3 := b3.size
        replace B := below_step B b3
        replace h0 := h0.below b3
        replace h1 := h1.below b3
        replace h2 := h2.below b3
        clear b3
        have once3 : True := trivial
        go_wp2_with (go_at_call 20; clear once3; refine (toDeed_u h1 l1).mono ?_; rintro e w4 ⟨Ya1, da1, rfl, ya1, b4⟩)
        have s4 := b4.size
        replace B := below_step B b4
        replace h0 := h0.below b4
        replace h1 := h1.below b4
        replace h2 := h2.below b4
        replace ya0 := ya0.below b4
        clear b4
        have once4 : True := trivial
        go_wp2_with (go_at_call 20; clear once4; refine (toDeed_u h2 l2).mono ?_; rintro e w5 ⟨Ya2, da2, rfl, ya2, b5⟩)
        have s5 := b5.size
        replace B := below_step B b5
        replace h0 := h0.below b5
        replace h1 := h1.below b5
        replace h2 := h2.below b5
        replace ya0 := ya0.below b5
        replace ya1 := ya1.below b5
        clear b5
        have once5 : True := trivial
        go_wp2_with (go_at_call 49; clear once5; refine (spec_NextReady _ _ _ _ _ _ _ _ _ _ _ _ _ _ _ _ _ _ _ _ ya0.slc ya1.slc ya2.slc l0 l1 l2).mono ?_; rintro e w6 ⟨rfl, b6⟩; rw [← HFF.out])
        have s6 := b6.size
        replace B := below_step B b6
        replace h0 := h0.below b6
        replace h1 := h1.below b6
        replace h2 := h2.below b6
        replace ya0 := ya0.below b6
        replace ya1 := ya1.below b6
        replace ya2 := ya2.below b6
        clear b6
        clear ya0
        clear ya1
        clear ya2
        have once6 : True := trivial
        go_wp2_with (go_at_call 19; clear once6; refine (toInt_u h0 l0).mono ?_; rintro e w7 ⟨Yb0, db0, rfl, yb0, b7⟩)
        have s7 := b7.size
        replace B := below_step B b7
        replace h0 := h0.below b7
        replace h1 := h1.below b7
        replace h2 := h2.below b7
        clear b7
        have once7 : True := trivial
        go_wp2_with (go_at_call 20; clear once7; refine (toDeed_u h1 l1).mono ?_; rintro e w8 ⟨Yb1, db1, rfl, yb1, b8⟩)
        have s8 := b8.size
        replace B := below_step B b8
        replace h0 := h0.below b8
        replace h1 := h1.below b8
        replace h2 := h2.below b8
        replace yb0 := yb0.below b8
        clear b8
        have once8 : True := trivial
        go_wp2_with (go_at_call 20; clear once8; refine (toDeed_u h2 l2).mono ?_; rintro e w9 ⟨Yb2, db2, rfl, yb2, b9⟩)
        have s9 := b9.size
        replace B := below_step B b9
        replace h0 := h0.below b9
        replace h1 := h1.below b9
        replace h2 := h2.below b9
        replace yb0 := yb0.below b9
        replace yb1 := yb1.below b9
        clear b9
        have once9 : True := trivial
        go_wp2_with (go_at_call 50; clear once9; refine (impl_NextReady _ _ _ _ _ _ _ _ _ _ _ _ _ _ _ _ _ _ _ _ yb0.slc yb1.slc yb2.slc l0 l1 l2 (HT.out.below B)).mono ?_; rintro e w10 ⟨rfl, b10⟩; rw [← HFF.out])
        have s10 := b10.size
        replace B := below_step B b10
        replace h0 := h0.below b10
        replace h1 := h1.below b10
        replace h2 := h2.below b10
        replace yb0 := yb0.below b10
        replace yb1 := yb1.below b10
        replace yb2 := yb2.below b10
        clear b10
        have once10 : True := trivial
        go_wp2_with (go_at_call 19; clear once10; refine (toInt_u h0 l0).mono ?_; rintro e w11 ⟨Yc0, dc0, rfl, yc0, b11⟩)
        have s11 := b11.size
        replace B := below_step B b11
        replace h0 := h0.below b11
        replace h1 := h1.below b11
        replace h2 := h2.below b11
        replace yb0 := yb0.below b11
        replace yb1 := yb1.below b11
        replace yb2 := yb2.below b11
        clear b11
        have once11 : True := trivial
        go_wp2_with (go_at_call 22; clear once11; refine (eqInt_u yb0.slc yc0.slc l0 l0).mono ?_; rintro e w12 ⟨rfl, b12⟩; rw [HX0.out])
        have s12 := b12.size
        replace B := below_step B b12
        replace h0 := h0.below b12
        replace h1 := h1.below b12
        replace h2 := h2.below b12
        replace yb0 := yb0.below b12
        replace yb1 := yb1.below b12
        replace yb2 := yb2.below b12
        clear b12 yc0
        have once12 : True := trivial
        go_wp2_with (go_at_call 20; clear once12; refine (toDeed_u h1 l1).mono ?_; rintro e w13 ⟨Yc1, dc1, rfl, yc1, b13⟩)
        have s13 := b13.size
        replace B := below_step B b13
        replace h0 := h0.below b13
        replace h1 := h1.below b13
        replace h2 := h2.below b13
        replace yb0 := yb0.below b13
        replace yb1 := yb1.below b13
        replace yb2 := yb2.below b13
        clear b13
        have once13 : True := trivial
        go_wp2_with (go_at_call 23; clear once13; refine (eqDeed_u yb1.slc yc1.slc l1 l1).mono ?_; rintro e w14 ⟨rfl, b14⟩; rw [HX1.out])
        have s14 := b14.size
        replace B := below_step B b14
        replace h0 := h0.below b14
        replace h1 := h1.below b14
        replace h2 := h2.below b14
        replace yb0 := yb0.below b14
        replace yb1 := yb1.below b14
        replace yb2 := yb2.below b14
        clear b14 yc1
        have once14 : True := trivial
        go_wp2_with (go_at_call 20; clear once14; refine (toDeed_u h2 l2).mono ?_; rintro e w15 ⟨Yc2, dc2, rfl, yc2, b15⟩)
        have s15 := b15.size
        replace B := below_step B b15
        replace h0 := h0.below b15
        replace h1 := h1.below b15
        replace h2 := h2.below b15
        replace yb0 := yb0.below b15
        replace yb1 := yb1.below b15
        replace yb2 := yb2.below b15
        clear b15
        have once15 : True := trivial
        go_wp2_with (go_at_call 23; clear once15; refine (eqDeed_u yb2.slc yc2.slc l2 l2).mono ?_; rintro e w16 ⟨rfl, b16⟩; rw [HX2.out])
        have s16 := b16.size
        replace B := below_step B b16
        replace h0 := h0.below b16
        replace h1 := h1.below b16
        replace h2 := h2.below b16
        replace yb0 := yb0.below b16
        replace yb1 := yb1.below b16
        replace yb2 := yb2.below b16
        clear b16 yc2
        go_wp2_with fail
        go_ret
        exact ⟨rfl, B⟩
end Go.Proofs.YtojnnemodikpeaaDoor
