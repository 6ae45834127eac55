/-
  Drawing rooms and deeds: l1Both and the laws' draw functions.
-/
import Derived.Test.YtojnnemodikpeaaDoorDrawM
import Derived.Test.YtojnnemodikpeaaDoorImplL
namespace Go.Proofs.YtojnnemodikpeaaDoor
open Go.RowKit
set_option linter.unusedVariables false
theorem OwnV.gb {E s : Nat} {w w' : World} {lo hi n c g : Nat} {A : Option Addr} {xs : List Value} (h : OwnV E s w lo hi A n c xs) (hg : w.grownBy w' (some g)) (hlo : g < lo) : OwnV E s w' lo hi A n c xs :=
  h.keep hg.size fun b h1 _ h3 => hg.block b h3 (by simp; omega)
/-- Rooms and deeds of the call's own; the source some steps on; all else as it was. -/
def GotBoth (w : World) (g : Nat) (A : Option Addr) (n c q : Nat) (e : Ending) (w' : World) : Prop :=
  ∃ (A1 : Option Addr) (n1 c1 : Nat) (xs : List Int) (A2 : Option Addr) (n2 c2 : Nat) (ds : List DeedD), e = .returned (.tuple #[.slice A1 n1 c1, .slice A2 n2 c2]) ∧ OwnV 3 1 w' w.heap.size w'.heap.size A1 n1 c1 (ints xs) ∧ OwnV 46 3 w' w.heap.size w'.heap.size A2 n2 c2 (deeds ds) ∧ n1 ≤ 10 ∧ n2 ≤ 20 ∧ Rd w' g A n c q ∧ w.grownBy w' (some g)
set_option maxHeartbeats 2000000 in
theorem l1Both_any (g q n c : Nat) (A : Option Addr) (w : World) (h : Rd w g A n c q) (hq : q < 700000000) :
    Calls Tryd.prog 67 #[.pointer (some ⟨g, 0, none⟩)] w (GotBoth w g A n c (q + 220)) := by
  have hgl := h.gblt
  go_enter Tryd.func67, Tryd.ntmps67
  go_wp2_with fail
  refine (l1Rooms_any g q n c A _ h (by omega)).mono ?_
  rintro e w1 ⟨A1, n1, c1, xs, rfl, o1, hn1, r1, g1⟩
  have s1 := g1.size
  have HO := Lib.hid (And.intro o1 g1)
  clear h o1 g1
  go_wp2_with fail
  refine (l1List_any g (q + 20) n c A n1 _ r1 (by omega) (by omega) (by omega)).mono ?_
  rintro e w2 ⟨A2, n2, c2, ds, rfl, o2, hn2, r2, g2⟩
  have s2 := g2.size
  have HO2 := Lib.hid (And.intro o2 (And.intro g2 r2))
  clear o2 g2 r2 r1
  go_wp2
  go_ret2
  exact ⟨A1, n1, c1, xs, A2, n2, c2, ds, rfl, (HO.out.1.gb HO2.out.2.1 hgl).wide (Nat.le_refl _) s2, HO2.out.1.from s1, hn1, hn2, HO2.out.2.2, gb_trans HO.out.2 HO2.out.2.1⟩
/-- What a law draws: rooms and deeds. -/
def DrewBoth (w : World) (e : Ending) (w' : World) : Prop :=
  ∃ (A1 : Option Addr) (n1 c1 : Nat) (xs : List Int) (A2 : Option Addr) (n2 c2 : Nat) (ds : List DeedD), e = .returned (.tuple #[.slice A1 n1 c1, .slice A2 n2 c2]) ∧ Slc w' w.heap.size w'.heap.size 1 A1 n1 c1 (ints xs) ∧ Slc w' w.heap.size w'.heap.size 3 A2 n2 c2 (deeds ds) ∧ n1 ≤ 10 ∧ n2 ≤ 20 ∧ Below w.heap.size w w'
set_option maxHeartbeats 2000000 in
theorem DrawRunLines_any (A : Option Addr) (n c : Nat) (w : World) (h : Code w A n c) : Calls Tryd.prog 27 #[.slice A n c] w (DrewBoth w) := by
  go_enter Tryd.func27, Tryd.ntmps27
  go_wp2_with fail
  refine (open_any _ _ _ _ h).mono ?_
  rintro e w1 ⟨g, A1, n1, c1, rfl, r1, b1, g0⟩
  have HB1 := Lib.hid b1
  have z1 := b1.size
  clear h b1
  go_wp2_with fail
  refine (l1Both_any g 0 n1 c1 A1 _ r1 (by omega)).mono ?_
  rintro e w2 ⟨B1, m1, d1, xs, B2, m2, d2, ds, rfl, o1, o2, h1, h2, r2, g2⟩
  have HO := Lib.hid (And.intro o1 (And.intro o2 g2))
  clear r1 r2 o1 o2 g2
  go_wp2
  go_ret2
  exact ⟨B1, m1, d1, xs, B2, m2, d2, ds, rfl, HO.out.1.slc.wide z1 (Nat.le_refl _), HO.out.2.1.slc.wide z1 (Nat.le_refl _), h1, h2, HB1.out.trans (below_of_gb HO.out.2.2 g0 z1)⟩
set_option maxHeartbeats 2000000 in
theorem DrawLeftIn_any (A : Option Addr) (n c : Nat) (w : World) (h : Code w A n c) : Calls Tryd.prog 40 #[.slice A n c] w (DrewBoth w) := by
  go_enter Tryd.func40, Tryd.ntmps40
  go_wp2_with fail
  refine (open_any _ _ _ _ h).mono ?_
  rintro e w1 ⟨g, A1, n1, c1, rfl, r1, b1, g0⟩
  have HB1 := Lib.hid b1
  have z1 := b1.size
  clear h b1
  go_wp2_with fail
  refine (l1Both_any g 0 n1 c1 A1 _ r1 (by omega)).mono ?_
  rintro e w2 ⟨B1, m1, d1, xs, B2, m2, d2, ds, rfl, o1, o2, h1, h2, r2, g2⟩
  have HO := Lib.hid (And.intro o1 (And.intro o2 g2))
  clear r1 r2 o1 o2 g2
  go_wp2
  go_ret2
  exact ⟨B1, m1, d1, xs, B2, m2, d2, ds, rfl, HO.out.1.slc.wide z1 (Nat.le_refl _), HO.out.2.1.slc.wide z1 (Nat.le_refl _), h1, h2, HB1.out.trans (below_of_gb HO.out.2.2 g0 z1)⟩
set_option maxHeartbeats 2000000 in
theorem DrawOpenLines_any (A : Option Addr) (n c : Nat) (w : World) (h : Code w A n c) : Calls Tryd.prog 42 #[.slice A n c] w (DrewBoth w) := by
  go_enter Tryd.func42, Tryd.ntmps42
  go_wp2_with fail
  refine (open_any _ _ _ _ h).mono ?_
  rintro e w1 ⟨g, A1, n1, c1, rfl, r1, b1, g0⟩
  have HB1 := Lib.hid b1
  have z1 := b1.size
  clear h b1
  go_wp2_with fail
  refine (l1Both_any g 0 n1 c1 A1 _ r1 (by omega)).mono ?_
  rintro e w2 ⟨B1, m1, d1, xs, B2, m2, d2, ds, rfl, o1, o2, h1, h2, r2, g2⟩
  have HO := Lib.hid (And.intro o1 (And.intro o2 g2))
  clear r1 r2 o1 o2 g2
  go_wp2
  go_ret2
  exact ⟨B1, m1, d1, xs, B2, m2, d2, ds, rfl, HO.out.1.slc.wide z1 (Nat.le_refl _), HO.out.2.1.slc.wide z1 (Nat.le_refl _), h1, h2, HB1.out.trans (below_of_gb HO.out.2.2 g0 z1)⟩
set_option maxHeartbeats 2000000 in
theorem DrawRefusedDeeds_any (A : Option Addr) (n c : Nat) (w : World) (h : Code w A n c) : Calls Tryd.prog 43 #[.slice A n c] w (DrewBoth w) := by
  go_enter Tryd.func43, Tryd.ntmps43
  go_wp2_with fail
  refine (open_any _ _ _ _ h).mono ?_
  rintro e w1 ⟨g, A1, n1, c1, rfl, r1, b1, g0⟩
  have HB1 := Lib.hid b1
  have z1 := b1.size
  clear h b1
  go_wp2_with fail
  refine (l1Both_any g 0 n1 c1 A1 _ r1 (by omega)).mono ?_
  rintro e w2 ⟨B1, m1, d1, xs, B2, m2, d2, ds, rfl, o1, o2, h1, h2, r2, g2⟩
  have HO := Lib.hid (And.intro o1 (And.intro o2 g2))
  clear r1 r2 o1 o2 g2
  go_wp2
  go_ret2
  exact ⟨B1, m1, d1, xs, B2, m2, d2, ds, rfl, HO.out.1.slc.wide z1 (Nat.le_refl _), HO.out.2.1.slc.wide z1 (Nat.le_refl _), h1, h2, HB1.out.trans (below_of_gb HO.out.2.2 g0 z1)⟩
end Go.Proofs.YtojnnemodikpeaaDoor
