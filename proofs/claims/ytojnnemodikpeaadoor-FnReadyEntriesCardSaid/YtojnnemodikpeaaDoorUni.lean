/-
  The laws' helpers in one shape: to, eq, mark, held.
-/
import Derived.Test.YtojnnemodikpeaaDoorHeld
import Derived.Test.YtojnnemodikpeaaDoorDeedS
import Derived.Test.YtojnnemodikpeaaDoorStrS
namespace Go.Proofs.YtojnnemodikpeaaDoor
open Go.RowKit
set_option linter.unusedVariables false
theorem Own.toV {w : World} {lo hi n c : Nat} {A : Option Addr} {xs : List Int} (h : Own w lo hi A n c xs) : OwnV 3 1 w lo hi A n c (ints xs) :=
  ⟨h.slc, fun hn => by obtain ⟨b, cs, e, k, z⟩ := h.blk hn; exact ⟨b, cs, e, k, by omega⟩⟩
theorem OwnV.toI {w : World} {lo hi n c : Nat} {A : Option Addr} {xs : List Int} (h : OwnV 3 1 w lo hi A n c (ints xs)) : Own w lo hi A n c xs :=
  ⟨h.slc, fun hn => by obtain ⟨b, cs, e, k, z⟩ := h.blk hn; exact ⟨b, cs, e, k, by omega⟩⟩
theorem toInt_u {lo hi n c : Nat} {A : Option Addr} {xs : List Int} {w : World} (h : Slc w lo hi 1 A n c (ints xs)) (hn : n ≤ 1048576) :
    Calls Tryd.prog 19 #[.slice A n c] w fun e w' => ∃ A' c', e = .returned (.slice A' n c') ∧ OwnV 3 1 w' w.heap.size w'.heap.size A' n c' (ints xs) ∧ Below w.heap.size w w' := by
  refine (toIntS_any _ _ _ _ _ _ _ h hn).mono fun e w' hnew => ?_
  obtain ⟨A1, n1, c1, he, m1, b1⟩ := hnew.own
  have : n1 = n := by have := m1.slc.len; have := h.len; omega
  subst this
  exact ⟨A1, c1, he, m1.toV, b1⟩
theorem toDeed_u {lo hi n c : Nat} {A : Option Addr} {xs : List DeedD} {w : World} (h : Slc w lo hi 3 A n c (deeds xs)) (hn : n ≤ 1048576) :
    Calls Tryd.prog 20 #[.slice A n c] w fun e w' => ∃ A' c', e = .returned (.slice A' n c') ∧ OwnV 46 3 w' w.heap.size w'.heap.size A' n c' (deeds xs) ∧ Below w.heap.size w w' := by
  refine (toDeedS_any _ _ _ _ _ _ _ h hn).mono fun e w' ⟨A1, n1, c1, he, m1, b1⟩ => ?_
  have : n1 = n := by have := m1.slc.len; have := h.len; omega
  subst this
  exact ⟨A1, c1, he, m1, b1⟩
theorem eqInt_u {lo hi n c lo' hi' n' c' : Nat} {A A' : Option Addr} {xs ys : List Int} {w : World} (h : Slc w lo hi 1 A n c (ints xs)) (h' : Slc w lo' hi' 1 A' n' c' (ints ys)) (hn : n ≤ 1048576) (hn' : n' ≤ 1048576) :
    Calls Tryd.prog 22 #[.slice A n c, .slice A' n' c'] w fun e w' => e = .returned (.bool (xs == ys)) ∧ Below w.heap.size w w' :=
  (eqIntS_any _ _ _ _ _ _ _ _ _ _ _ _ _ h h' hn hn').mono fun e w' hs => ⟨hs.1, by obtain ⟨m, rfl⟩ := hs.2; exact below_drewN (Below.refl _ _) m⟩
theorem eqDeed_u {lo hi n c lo' hi' n' c' : Nat} {A A' : Option Addr} {xs ys : List DeedD} {w : World} (h : Slc w lo hi 3 A n c (deeds xs)) (h' : Slc w lo' hi' 3 A' n' c' (deeds ys)) (hn : n ≤ 1048576) (hn' : n' ≤ 1048576) :
    Calls Tryd.prog 23 #[.slice A n c, .slice A' n' c'] w fun e w' => e = .returned (.bool (xs == ys)) ∧ Below w.heap.size w w' := eqDeedS_any _ _ _ _ _ _ _ _ _ _ _ _ _ h h' hn hn'
theorem eqStr_u {lo hi n c lo' hi' n' c' : Nat} {A A' : Option Addr} {xs ys : List (List UInt8)} {w : World} (h : Slc w lo hi 1 A n c (txts xs)) (h' : Slc w lo' hi' 1 A' n' c' (txts ys)) (hn : n ≤ 1048576) (hn' : n' ≤ 1048576) :
    Calls Tryd.prog 37 #[.slice A n c, .slice A' n' c'] w fun e w' => e = .returned (.bool (xs == ys)) ∧ Below w.heap.size w w' :=
  (eqStringS_any _ _ _ _ _ _ _ _ _ _ _ _ _ h h' hn hn').mono fun e w' hs => ⟨hs.1, by obtain ⟨m, rfl⟩ := hs.2; exact below_drewN (Below.refl _ _) m⟩
theorem markInt_u {lo hi n c : Nat} {A : Option Addr} {xs : List Int} (k0 : Nat) {w : World} (h : OwnV 3 1 w lo hi A n c (ints xs)) (hn : n ≤ 1048576) (hk0 : k0 ≤ 10000000) :
    Calls Tryd.prog 24 #[.slice A n c, .int .i64 k0] w fun e w' => e = .returned (.int .i64 ((k0 + n : Nat) : Int)) ∧ Slc w' lo hi 1 A n c (ints (marks k0 n)) ∧ Chg lo hi w w' := by
  refine (markIntS_any _ _ _ _ _ _ _ _ h.toI hn (by omega) (by omega)).mono fun e w' ⟨he, ho, hc, _⟩ => ?_
  exact ⟨by rw [he]; congr 2, ho.slc, hc⟩
theorem markDeed_u {lo hi n c : Nat} {A : Option Addr} {xs : List Value} (k0 : Nat) {w : World} (h : OwnV 46 3 w lo hi A n c xs) (hn : n ≤ 1048576) (hk0 : k0 ≤ 10000000) :
    Calls Tryd.prog 25 #[.slice A n c, .int .i64 k0] w fun e w' => e = .returned (.int .i64 ((k0 + 3 * n : Nat) : Int)) ∧ Chg lo hi w w' := markDeedS_any _ _ _ _ _ _ _ _ h hn hk0
theorem markStr_u {lo hi n c : Nat} {A : Option Addr} {xs : List Value} (k0 : Nat) {w : World} (h : OwnV 9 1 w lo hi A n c xs) (hn : n ≤ 1048576) (hk0 : k0 ≤ 10000000) :
    Calls Tryd.prog 38 #[.slice A n c, .int .i64 k0] w fun e w' => e = .returned (.int .i64 ((k0 + n : Nat) : Int)) ∧ Slc w' lo hi 1 A n c (txts (marksT k0 n)) ∧ Chg lo hi w w' := markStringS_any _ _ _ _ _ _ _ _ h hn hk0
theorem heldInt_u {lo hi n c : Nat} {A : Option Addr} (k0 : Nat) {w : World} (h : Slc w lo hi 1 A n c (ints (marks k0 n))) (hn : n ≤ 1048576) (hk0 : k0 ≤ 10000000) :
    Calls Tryd.prog 26 #[.slice A n c, .int .i64 k0] w fun e w' => e = .returned (.int .i64 ((k0 + n : Nat) : Int)) ∧ Below w.heap.size w w' := by
  refine (heldIntS_any _ _ _ _ _ _ _ h hn (by omega) (by omega)).mono fun e w' ⟨he, hw⟩ => ?_
  subst hw
  exact ⟨by rw [he]; congr 2, Below.refl _ _⟩
theorem heldStr_u {lo hi n c : Nat} {A : Option Addr} (k0 : Nat) {w : World} (h : Slc w lo hi 1 A n c (txts (marksT k0 n))) (hn : n ≤ 1048576) (hk0 : k0 ≤ 10000000) :
    Calls Tryd.prog 39 #[.slice A n c, .int .i64 k0] w fun e w' => e = .returned (.int .i64 ((k0 + n : Nat) : Int)) ∧ Below w.heap.size w w' := heldStringS_any _ _ _ _ _ _ _ h hn hk0
end Go.Proofs.YtojnnemodikpeaaDoor
