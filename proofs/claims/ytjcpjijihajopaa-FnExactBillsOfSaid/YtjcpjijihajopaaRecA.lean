/-
  Records and slices of them.
  The contracts of the functions of chapter 8 that only look at one tariff or one record: TariffValid, ChargeOf, RecordValid, TalkMinutes, of the program and of the reference.
  The contracts of RecordValid and TalkMinutes, of the program and of the reference.
  Slices of records: copied, compared, measured.
  Slices of records: compared, measured, marked.
  Whether records are valid, and times after them.
  Whether a clock can be so late after records.
  The reference's BusyMinutes.
  The reference's WaitedMinutes.
  The walks of the laws that hold one answer of chapters 8 and 9 against the reference's: TariffValid, KeeperValid, ChargeOf, RecordValid, TalkMinutes.
-/
import Derived.Test.YtjcpjijihajopaaBas
import Derived.Deep.QuietTactic
import Derived.BigQuiet
import Derived.Deep.RegionHeld3
import Derived.Laws.StructEq
set_option linter.unusedSectionVars false
set_option linter.unusedSimpArgs false
set_option linter.unusedVariables false
namespace Go.Proofs.Ytjcpjijihajopaa
open Go.RowKit
set_option linter.unusedVariables false
structure RecD where
  c : Int
  l : Int
  o : Int
  f : Int
  h : Int
  t : Int
  e : ByteArray
  deriving DecidableEq
def RecD.cells (d : RecD) : List Value := [.int .i64 d.c, .int .i64 d.l, .int .i64 d.o, .int .i64 d.f, .int .i64 d.h, .int .i64 d.t, .string d.e]
def RecD.val (d : RecD) : Value := .agg #[.int .i64 d.c, .int .i64 d.l, .int .i64 d.o, .int .i64 d.f, .int .i64 d.h, .int .i64 d.t, .string d.e]
def recs (ds : List RecD) : List Value := ds.flatMap RecD.cells
theorem recs_len (ds : List RecD) : (recs ds).length = ds.length * 7 := flat_len RecD.cells (s := 7) (fun _ => rfl) ds
theorem recs_get {ds : List RecD} {k : Nat} {d : RecD} (h : ds[k]? = some d) : (recs ds)[k * 7 + 0]? = some (.int .i64 d.c) ∧ (recs ds)[k * 7 + 1]? = some (.int .i64 d.l) ∧ (recs ds)[k * 7 + 2]? = some (.int .i64 d.o) ∧ (recs ds)[k * 7 + 3]? = some (.int .i64 d.f) ∧ (recs ds)[k * 7 + 4]? = some (.int .i64 d.h) ∧ (recs ds)[k * 7 + 5]? = some (.int .i64 d.t) ∧ (recs ds)[k * 7 + 6]? = some (.string d.e) := by
  have e := fun i hi => flat_get RecD.cells (s := 7) (fun _ => rfl) ds k i hi
  unfold recs
  rw [e 0 (by omega), e 1 (by omega), e 2 (by omega), e 3 (by omega), e 4 (by omega), e 5 (by omega), e 6 (by omega), h]
  exact ⟨rfl, rfl, rfl, rfl, rfl, rfl, rfl⟩
theorem Slc.recLen {w : World} {lo hi n c : Nat} {A : Option Addr} {ds : List RecD} (h : Slc w lo hi 7 A n c (recs ds)) : ds.length = n := by
  have := h.len; rw [recs_len] at this; omega
/-- Cells of one record. -/
structure RecAt (w : World) (b off : Nat) (d : RecD) : Prop where
  c0 : w.cell? ⟨b, off, none⟩ = some (.int .i64 d.c)
  c1 : w.cell? ⟨b, off + 1, none⟩ = some (.int .i64 d.l)
  c2 : w.cell? ⟨b, off + 2, none⟩ = some (.int .i64 d.o)
  c3 : w.cell? ⟨b, off + 3, none⟩ = some (.int .i64 d.f)
  c4 : w.cell? ⟨b, off + 4, none⟩ = some (.int .i64 d.h)
  c5 : w.cell? ⟨b, off + 5, none⟩ = some (.int .i64 d.t)
  c6 : w.cell? ⟨b, off + 6, none⟩ = some (.string d.e)
theorem Slc.recAt {w : World} {lo hi n c : Nat} {A : Option Addr} {ds : List RecD} (h : Slc w lo hi 7 A n c (recs ds)) {k : Nat} (hk : k < n) :
    ∃ b off d, A = some ⟨b, off, none⟩ ∧ lo ≤ b ∧ b < hi ∧ b < w.heap.size ∧ ds[k]? = some d ∧ RecAt w b (off + k * 7) d := by
  obtain ⟨b, off, e, h1, h2, h3, h4⟩ := h.cells hk
  have hl : k < ds.length := by rw [h.recLen]; exact hk
  obtain ⟨g0, g1, g2, g3, g4, g5, g6⟩ := recs_get (List.getElem?_eq_getElem hl)
  exact ⟨b, off, ds[k], e, h1, h2, h3, List.getElem?_eq_getElem hl, ⟨h4 0 _ g0, h4 1 _ g1, h4 2 _ g2, h4 3 _ g3, h4 4 _ g4, h4 5 _ g5, h4 6 _ g6⟩⟩
end Go.Proofs.Ytjcpjijihajopaa
namespace Go.Proofs.Ytjcpjijihajopaa
open Go.RowKit
def tariffB (f s p : Int) : Bool := decide (0 ≤ f ∧ f ≤ 60 ∧ 1 ≤ s ∧ s ≤ 60 ∧ 0 ≤ p ∧ p ≤ 1000)
def chargeF (f s p m : Int) : Int := if m ≤ f then 0 else (m - f + s - 1) / s * p
def chargeOfF (f s p m : Int) : Int := if tariffB f s p = true ∧ 0 ≤ m ∧ m ≤ 3600 then chargeF f s p m else -1
theorem tariffB_bounds {f s p : Int} (h : tariffB f s p = true) : 0 ≤ f ∧ f ≤ 60 ∧ 1 ≤ s ∧ s ≤ 60 ∧ 0 ≤ p ∧ p ≤ 1000 := by simpa [tariffB] using h
theorem div_bound (a s : Int) (h0 : 0 ≤ a) (h1 : a ≤ 3660) (hs : 1 ≤ s) : 0 ≤ a / s ∧ a / s ≤ 3660 := by
  refine ⟨Int.ediv_nonneg h0 (by omega), ?_⟩
  exact Int.le_trans (Int.ediv_le_self s h0) h1
theorem mul_bound (a p : Int) (h0 : 0 ≤ a) (h1 : a ≤ 3660) (p0 : 0 ≤ p) (p1 : p ≤ 1000) : 0 ≤ a * p ∧ a * p ≤ 3660000 := by
  refine ⟨Int.mul_nonneg h0 p0, ?_⟩
  have e1 : a * p ≤ 3660 * p := Int.mul_le_mul_of_nonneg_right h1 p0
  have e2 : (3660 : Int) * p ≤ 3660 * 1000 := Int.mul_le_mul_of_nonneg_left p1 (by omega)
  omega
theorem chargeF_bounds {f s p m : Int} (h : tariffB f s p = true) (h0 : 0 ≤ m) (h1 : m ≤ 3600) : 0 ≤ chargeF f s p m ∧ chargeF f s p m ≤ 3660000 := by
  obtain ⟨b0, b1, b2, b3, b4, b5⟩ := tariffB_bounds h
  unfold chargeF
  split
  · omega
  · have hd := div_bound (m - f + s - 1) s (by omega) (by omega) b2
    exact mul_bound _ p hd.1 hd.2 b4 b5
set_option maxHeartbeats 1000000 in
theorem impl_TariffValid (f s p : Int) (w : World) :
    Calls Try.prog 44 #[.agg #[.int .i64 f, .int .i64 s, .int .i64 p]] w fun e w' => e = .returned (.bool (tariffB f s p)) ∧ Below w.heap.size w w' := by
  go_enter Try.func44, Try.ntmps44
  go_wp2
  all_goals go_ret
  all_goals exact ⟨ret_bool (by rw [Bool.eq_iff_iff]; simp [tariffB]; omega), ((Below.refl _ _).alloc (Nat.le_refl _) _)⟩
set_option maxHeartbeats 1000000 in
theorem spec_TariffValid (f s p : Int) (w : World) :
    Calls Try.prog 40 #[.agg #[.int .i64 f, .int .i64 s, .int .i64 p]] w fun e w' => e = .returned (.bool (tariffB f s p)) ∧ Below w.heap.size w w' := by
  go_enter Try.func40, Try.ntmps40
  go_wp2_with ((go_at_call 31; refine (l1In_any _ _ _ _).mono ?_; rintro e w' ⟨rfl, rfl⟩))
  all_goals go_ret
  all_goals exact ⟨ret_bool (by rw [Bool.eq_iff_iff]; simp [tariffB, inB] at *; omega), ((Below.refl _ _).alloc (Nat.le_refl _) _)⟩
set_option maxHeartbeats 1000000 in
theorem impl_ChargeOf_yes (f s p m : Int) (w : World) (h : tariffB f s p = true) (h0 : 0 ≤ m) (h1 : m ≤ 3600) :
    Calls Try.prog 27 #[.agg #[.int .i64 f, .int .i64 s, .int .i64 p], .int .i64 m] w fun e w' => e = .returned (.int .i64 (chargeF f s p m)) ∧ Below w.heap.size w w' := by
  obtain ⟨b0, b1, b2, b3, b4, b5⟩ := tariffB_bounds h
  by_cases hm : m ≤ f
  · go_enter Try.func27, Try.ntmps27
    go_wp2_with fail
    refine (impl_TariffValid _ _ _ _).mono ?_
    rintro e w1 ⟨rfl, hb1⟩
    obtain ⟨k1, z1⟩ := blk_below hb1 (heap_alloc_new w _)
    have c1 := blk_cell k1
    have B1 := ((Below.refl w.heap.size w).alloc (Nat.le_refl _) _).trans (hb1.mono (by simp))
    go_wp2
    all_goals go_ret
    all_goals exact ⟨ret_int (by simp [chargeF, hm]), B1⟩
  · obtain ⟨d0, d1⟩ := div_bound (m - f + s - 1) s (by omega) (by omega) b2
    obtain ⟨p0, p1⟩ := mul_bound _ p d0 d1 b4 b5
    have hne : (s == 0) = false := by simp; omega
    go_enter Try.func27, Try.ntmps27
    go_wp2_with fail
    refine (impl_TariffValid _ _ _ _).mono ?_
    rintro e w1 ⟨rfl, hb1⟩
    obtain ⟨k1, z1⟩ := blk_below hb1 (heap_alloc_new w _)
    have c1 := blk_cell k1
    have B1 := ((Below.refl w.heap.size w).alloc (Nat.le_refl _) _).trans (hb1.mono (by simp))
    go_wp2
    all_goals go_ret
    all_goals exact ⟨ret_int (by rw [chargeF, if_neg (by omega)]), B1⟩
set_option maxHeartbeats 1000000 in
theorem impl_ChargeOf_no (f s p m : Int) (w : World) (h : ¬ (tariffB f s p = true ∧ 0 ≤ m ∧ m ≤ 3600)) :
    Calls Try.prog 27 #[.agg #[.int .i64 f, .int .i64 s, .int .i64 p], .int .i64 m] w fun e w' => e = .returned (.int .i64 (-1)) ∧ Below w.heap.size w w' := by
  by_cases hT : tariffB f s p = true
  · by_cases hm : 0 ≤ m
    all_goals
      go_enter Try.func27, Try.ntmps27
      go_wp2_with fail
      refine (impl_TariffValid _ _ _ _).mono ?_
      rintro e w1 ⟨rfl, hb1⟩
      have B1 := ((Below.refl w.heap.size w).alloc (Nat.le_refl _) _).trans (hb1.mono (by simp))
      have hm' : m < 0 ∨ 3600 < m := by
        have : ¬ (0 ≤ m ∧ m ≤ 3600) := fun x => h ⟨hT, x⟩
        omega
      clear h
      rcases hm' with hm' | hm'
      all_goals first | (exfalso; omega) | skip
      all_goals go_wp2
      all_goals go_ret
      all_goals exact ⟨rfl, B1⟩
  · have hT' : tariffB f s p = false := by simpa using hT
    clear h hT
    go_enter Try.func27, Try.ntmps27
    go_wp2_with fail
    refine (impl_TariffValid _ _ _ _).mono ?_
    rintro e w1 ⟨rfl, hb1⟩
    have B1 := ((Below.refl w.heap.size w).alloc (Nat.le_refl _) _).trans (hb1.mono (by simp))
    go_wp2
    all_goals go_ret
    all_goals exact ⟨rfl, B1⟩
theorem impl_ChargeOf (f s p m : Int) (w : World) :
    Calls Try.prog 27 #[.agg #[.int .i64 f, .int .i64 s, .int .i64 p], .int .i64 m] w fun e w' => e = .returned (.int .i64 (chargeOfF f s p m)) ∧ Below w.heap.size w w' := by
  by_cases h : tariffB f s p = true ∧ 0 ≤ m ∧ m ≤ 3600
  · rw [chargeOfF, if_pos h]; exact impl_ChargeOf_yes f s p m w h.1 h.2.1 h.2.2
  · rw [chargeOfF, if_neg h]; exact impl_ChargeOf_no f s p m w h
theorem zero_div (s p : Int) (hs : 1 ≤ s) : (s - 1) / s * p = 0 := by
  rw [Int.ediv_eq_zero_of_lt (by omega) (by omega)]; simp
theorem chargeF_alt (f s p m : Int) (hs : 1 ≤ s) : chargeF f s p m = if m < f then 0 else (m - f + s - 1) / s * p := by
  unfold chargeF
  by_cases h : m < f
  · rw [if_pos h, if_pos (by omega)]
  · rw [if_neg h]
    by_cases e : m = f
    · subst e
      rw [if_pos (by omega), show m - m + s - 1 = s - 1 by omega, zero_div s p hs]
    · rw [if_neg (by omega)]
set_option maxHeartbeats 1000000 in
theorem spec_l8Charge (f s p m : Int) (w : World) (h : tariffB f s p = true) (h0 : 0 ≤ m) (h1 : m ≤ 3600) :
    Calls Try.prog 43 #[.agg #[.int .i64 f, .int .i64 s, .int .i64 p], .int .i64 m] w fun e w' => e = .returned (.int .i64 (chargeF f s p m)) ∧ Below w.heap.size w w' := by
  obtain ⟨b0, b1, b2, b3, b4, b5⟩ := tariffB_bounds h
  have hne : (s == 0) = false := by simp; omega
  have H := Lib.hid (chargeF_alt f s p m b2)
  by_cases hm : m < f
  · have H0 := Lib.hid (zero_div s p b2)
    obtain ⟨d0, d1⟩ := div_bound (s - 1) s (by omega) (by omega) b2
    obtain ⟨p0, p1⟩ := mul_bound _ p d0 d1 b4 b5
    have hx : m - f < 0 := by omega
    go_enter Try.func43, Try.ntmps43
    go_wp2
    go_quiet (fail)
    go_wp2
    go_ret
    exact ⟨ret_int (by rw [H.out, if_pos hm]; exact H0.out), below_drewN ((Below.refl _ _).alloc (Nat.le_refl _) _) _⟩
  · obtain ⟨d0, d1⟩ := div_bound (m - f + s - 1) s (by omega) (by omega) b2
    obtain ⟨p0, p1⟩ := mul_bound _ p d0 d1 b4 b5
    have hx : 0 ≤ m - f := by omega
    go_enter Try.func43, Try.ntmps43
    go_wp2
    go_quiet (fail)
    go_wp2
    go_ret
    exact ⟨ret_int (by rw [H.out, if_neg (by omega)]), below_drewN ((Below.refl _ _).alloc (Nat.le_refl _) _) _⟩
end Go.Proofs.Ytjcpjijihajopaa
namespace Go.Proofs.Ytjcpjijihajopaa
open Go.RowKit
/-- A record's fields in order: call, line, operator, from, heard, to, end. -/
def recP (c l o f h t : Int) (e : List UInt8) : Prop :=
  1 ≤ c ∧ c ≤ 99 ∧ 1 ≤ l ∧ l ≤ 6 ∧ 0 ≤ o ∧ o ≤ 4 ∧ 0 ≤ f ∧ f ≤ 3600 ∧
    ((e = [111, 112, 101, 110] ∧ t = -1 ∧ ((o = 0 ∧ h = -1) ∨ (o ≠ 0 ∧ f ≤ h ∧ h ≤ 3600))) ∨
     (e = [100, 111, 110, 101] ∧ o ≠ 0 ∧ f ≤ h ∧ h ≤ t ∧ t ≤ 3600) ∨
     ((e = [108, 101, 102, 116] ∨ e = [116, 105, 114, 101, 100]) ∧ o = 0 ∧ h = -1 ∧ f ≤ t ∧ t ≤ 3600))
instance (c l o f h t : Int) (e : List UInt8) : Decidable (recP c l o f h t e) := by unfold recP; infer_instance
def recB (c l o f h t : Int) (e : List UInt8) : Bool := decide (recP c l o f h t e)
set_option maxHeartbeats 2000000 in
theorem impl_RecordValid (c l o f h t : Int) (e : ByteArray) (w : World) :
    Calls Try.prog 53 #[.agg #[.int .i64 c, .int .i64 l, .int .i64 o, .int .i64 f, .int .i64 h, .int .i64 t, .string e]] w fun x w' => x = .returned (.bool (recB c l o f h t e.toList)) ∧ Below w.heap.size w w' := by
  go_enter Try.func53, Try.ntmps53
  go_wp2
  all_goals go_ret
  all_goals refine ⟨ret_bool ?_, ((Below.refl _ _).alloc (Nat.le_refl _) _)⟩
  all_goals rw [Bool.eq_iff_iff]
  all_goals simp [recB, recP]
  all_goals grind
def overP (o f h t : Int) (e : List UInt8) : Prop :=
  (e = [100, 111, 110, 101] ∧ 0 < o ∧ f ≤ h ∧ h ≤ t ∧ t ≤ 3600 ∧ f ≤ t) ∨
     ((e = [108, 101, 102, 116] ∨ e = [116, 105, 114, 101, 100]) ∧ o = 0 ∧ h = -1 ∧ f ≤ t ∧ t ≤ 3600)
instance (o f h t : Int) (e : List UInt8) : Decidable (overP o f h t e) := by unfold overP; infer_instance
def overB (o f h t : Int) (e : List UInt8) : Bool := decide (overP o f h t e)
set_option maxHeartbeats 2000000 in
theorem spec_l8Over (c l o f h t : Int) (e : ByteArray) (w : World) :
    Calls Try.prog 81 #[.agg #[.int .i64 c, .int .i64 l, .int .i64 o, .int .i64 f, .int .i64 h, .int .i64 t, .string e]] w fun x w' => x = .returned (.bool (overB o f h t e.toList)) ∧ Below w.heap.size w w' := by
  go_enter Try.func81, Try.ntmps81
  go_wp2_with ((go_at_call 31; refine (l1In_any _ _ _ _).mono ?_; rintro e w' ⟨rfl, rfl⟩))
  all_goals go_ret
  all_goals refine ⟨ret_bool ?_, ((Below.refl _ _).alloc (Nat.le_refl _) _)⟩
  all_goals rw [Bool.eq_iff_iff]
  all_goals simp [overB, overP, inB] at *
  all_goals grind
set_option maxHeartbeats 2000000 in
theorem spec_RecordValid (c l o f h t : Int) (e : ByteArray) (w : World) :
    Calls Try.prog 58 #[.agg #[.int .i64 c, .int .i64 l, .int .i64 o, .int .i64 f, .int .i64 h, .int .i64 t, .string e]] w fun x w' => x = .returned (.bool (recB c l o f h t e.toList)) ∧ Below w.heap.size w w' := by
  go_enter Try.func58, Try.ntmps58
  go_wp2_with (first | (go_at_call 31; refine (l1In_any _ _ _ _).mono ?_; rintro e w' ⟨rfl, rfl⟩) | (go_at_call 81; refine (spec_l8Over _ _ _ _ _ _ _ _).mono ?_; rintro e w1 ⟨rfl, hb1⟩))
  all_goals go_ret
  all_goals refine ⟨ret_bool ?_, by first | exact ((Below.refl _ _).alloc (Nat.le_refl _) _) | exact ((Below.refl _ _).alloc (Nat.le_refl _) _).trans (hb1.mono (by simp))⟩
  all_goals rw [Bool.eq_iff_iff]
  all_goals simp [recB, recP, overB, overP, inB] at *
  all_goals grind
end Go.Proofs.Ytjcpjijihajopaa
namespace Go.Proofs.Ytjcpjijihajopaa
open Go.RowKit
set_option linter.unusedVariables false
theorem recs_set {ds : List RecD} {k : Nat} {d : RecD} {cs : Array Value} (h : ds[k]? = some d) (hs : k * 7 + 7 ≤ cs.size) (hc : ∀ j, j < k * 7 → cs[j]? = (recs ds)[j]?) :
    ∀ j, j < (k + 1) * 7 → (((((((cs.setIfInBounds (k * 7) (.int .i64 d.c)).setIfInBounds (k * 7 + 1) (.int .i64 d.l)).setIfInBounds (k * 7 + 2) (.int .i64 d.o)).setIfInBounds (k * 7 + 3) (.int .i64 d.f)).setIfInBounds (k * 7 + 4) (.int .i64 d.h)).setIfInBounds (k * 7 + 5) (.int .i64 d.t)).setIfInBounds (k * 7 + 6) (.string d.e))[j]? = (recs ds)[j]? := by
  intro j hj
  obtain ⟨g0, g1, g2, g3, g4, g5, g6⟩ := recs_get h
  by_cases j6 : j = k * 7 + 6
  · subst j6; rw [Array.getElem?_setIfInBounds_self_of_lt (by first | omega | (simp; omega))]; exact g6.symm
  rw [Array.getElem?_setIfInBounds_ne (by omega)]
  by_cases j5 : j = k * 7 + 5
  · subst j5; rw [Array.getElem?_setIfInBounds_self_of_lt (by first | omega | (simp; omega))]; exact g5.symm
  rw [Array.getElem?_setIfInBounds_ne (by omega)]
  by_cases j4 : j = k * 7 + 4
  · subst j4; rw [Array.getElem?_setIfInBounds_self_of_lt (by first | omega | (simp; omega))]; exact g4.symm
  rw [Array.getElem?_setIfInBounds_ne (by omega)]
  by_cases j3 : j = k * 7 + 3
  · subst j3; rw [Array.getElem?_setIfInBounds_self_of_lt (by first | omega | (simp; omega))]; exact g3.symm
  rw [Array.getElem?_setIfInBounds_ne (by omega)]
  by_cases j2 : j = k * 7 + 2
  · subst j2; rw [Array.getElem?_setIfInBounds_self_of_lt (by first | omega | (simp; omega))]; exact g2.symm
  rw [Array.getElem?_setIfInBounds_ne (by omega)]
  by_cases j1 : j = k * 7 + 1
  · subst j1; rw [Array.getElem?_setIfInBounds_self_of_lt (by first | omega | (simp; omega))]; exact g1.symm
  rw [Array.getElem?_setIfInBounds_ne (by omega)]
  by_cases j0 : j = k * 7
  · subst j0; rw [Array.getElem?_setIfInBounds_self_of_lt (by first | omega | (simp; omega))]; exact g0.symm
  rw [Array.getElem?_setIfInBounds_ne (by omega)]
  exact hc j (by omega)
theorem Slc.rec7 {w : World} {lo hi n c : Nat} {A : Option Addr} {ds : List RecD} (h : Slc w lo hi 7 A n c (recs ds)) {k : Nat} (hk : k < n) :
    ∃ b off d, A = some ⟨b, off, none⟩ ∧ lo ≤ b ∧ b < hi ∧ b < w.heap.size ∧ ds[k]? = some d ∧ w.cell? ⟨b, off + k * 7, none⟩ = some (.int .i64 d.c) ∧ w.cell? ⟨b, off + k * 7 + 1, none⟩ = some (.int .i64 d.l) ∧ w.cell? ⟨b, off + k * 7 + 2, none⟩ = some (.int .i64 d.o) ∧ w.cell? ⟨b, off + k * 7 + 3, none⟩ = some (.int .i64 d.f) ∧ w.cell? ⟨b, off + k * 7 + 4, none⟩ = some (.int .i64 d.h) ∧ w.cell? ⟨b, off + k * 7 + 5, none⟩ = some (.int .i64 d.t) ∧ w.cell? ⟨b, off + k * 7 + 6, none⟩ = some (.string d.e) := by
  obtain ⟨b, off, d, e, h1, h2, h3, hd, ⟨c0, c1, c2, c3, c4, c5, c6⟩⟩ := h.recAt hk
  exact ⟨b, off, d, e, h1, h2, h3, hd, c0, c1, c2, c3, c4, c5, c6⟩
set_option maxHeartbeats 1000000 in
theorem toRecord_any (d : RecD) (w : World) :
    Calls Try.prog 33 #[.agg #[.int .i64 d.c, .int .i64 d.l, .int .i64 d.o, .int .i64 d.f, .int .i64 d.h, .int .i64 d.t, .string d.e]] w fun e w' => e = .returned (.agg #[.int .i64 d.c, .int .i64 d.l, .int .i64 d.o, .int .i64 d.f, .int .i64 d.h, .int .i64 d.t, .string d.e]) ∧ Below w.heap.size w w' := by
  go_enter Try.func33, Try.ntmps33
  go_wp2
  refine bodyPost_ret (v := .agg #[.int .i64 d.c, .int .i64 d.l, .int .i64 d.o, .int .i64 d.f, .int .i64 d.h, .int .i64 d.t, .string d.e]) (by simp [results, Try.results33, go_sem]) rfl ⟨rfl, ?_⟩
  exact below_al (below_al (below_al (Below.refl _ _) _) _) _
theorem info_rec : (Try.prog.info? 50).map (fun i => (i.zero, i.size, i.bytes)) = some (some (.agg #[.int .i64 0, .int .i64 0, .int .i64 0, .int .i64 0, .int .i64 0, .int .i64 0, .string ⟨#[]⟩]), 7, 64) := by kernel_rfl
theorem make_recs (n : Nat) (hn : n ≤ 1048576) : ∃ cs : Array Value, cs.size = n * 7 ∧ ∀ w : World, (Instr.makeSlice 25 (.int .i64 (n : Int)) (.int .i64 (n : Int))).run Try.prog w = .ok (.slice (some ⟨w.heap.size, 0, none⟩) n n) (w.alloc (.cells cs 50)) := by
  obtain ⟨i, hi, hz, hs, hb⟩ := info_parts info_rec
  refine ⟨madeCells (Value.cells (.agg #[.int .i64 0, .int .i64 0, .int .i64 0, .int .i64 0, .int .i64 0, .int .i64 0, .string ⟨#[]⟩])) (n * 7), size_madeCells _ _, fun w => ?_⟩
  have := run_make (P := Try.prog) w 25 50 i _ Try.underlying25 hi hz .i64 .i64 n n (by omega) (Int.le_refl _) (by rw [hb]; omega) (by omega)
  rw [hs] at this
  simpa using this
/-- A new slice of records, and its block holds them alone. -/
def NewR (w : World) (ds : List RecD) (e : Ending) (w' : World) : Prop :=
  ∃ b n cs, e = .returned (.slice (some ⟨b, 0, none⟩) n n) ∧ n = ds.length ∧ w.heap.size ≤ b ∧ w'.heap[b]? = some (.cells cs 50) ∧ cs.toList = recs ds ∧ OwnV 50 7 w' w.heap.size w'.heap.size (some ⟨b, 0, none⟩) n n (recs ds) ∧ Below w.heap.size w w'
set_option maxHeartbeats 1000000 in
theorem toRecordS_any (lo hi n c : Nat) (A : Option Addr) (ds : List RecD) (w : World) (h : Slc w lo hi 7 A n c (recs ds)) (hn : n ≤ 1048576) :
    Calls Try.prog 11 #[.slice A n c] w (NewR w ds) := by
  obtain ⟨cs0, hs0, hmk⟩ := make_recs n hn
  have hlen := h.recLen
  have HS0 := Lib.hid hs0
  have HL := Lib.hid hlen
  clear hs0 hlen
  go_enter Try.func11, Try.ntmps11
  go_wp2
  go_loopw [4] (fun i wr => ∃ k : Nat, k ≤ n ∧ i = .int .i64 k ∧ Below w.heap.size w wr ∧ ∃ cs : Array Value, wr.heap[w.heap.size]? = some (.cells cs 50) ∧ cs.size = n * 7 ∧ ∀ j, j < k * 7 → cs[j]? = (recs ds)[j]?) (fun i _ => n - (intOf i).toNat)
  case atStart => exact ⟨0, Nat.zero_le _, rfl, below_al (Below.refl _ _) _, cs0, heap_alloc_new _ _, HS0.out, fun j hj => absurd hj (by omega)⟩
  case round =>
    obtain ⟨k, hk, rfl, B, cs, hb, hsz, hcs⟩ := hrel
    have HS := Lib.hid hsz
    have HC := Lib.hid hcs
    have HB := Lib.hid hb
    have hz := blk_lt hb
    clear hsz hcs hb
    by_cases hlt : k < n
    · obtain ⟨b, off, d, rfl, _, _, h3, hxk, hv0, hv1, hv2, hv3, hv4, hv5, hv6⟩ := (h.below B).rec7 hlt
      have HX := Lib.hid hxk
      clear hxk
      go_wp2_with fail
      refine (toRecord_any d _).mono ?_
      rintro e w1 ⟨rfl, b1⟩
      obtain ⟨hb1, z1⟩ := blk_below b1 HB.out
      have B1 := below_step B b1
      have e0 := blk_cell hb1 (k * 7)
      have e1 := blk_cell hb1 (k * 7 + 1)
      have e2 := blk_cell hb1 (k * 7 + 2)
      have e3 := blk_cell hb1 (k * 7 + 3)
      have e4 := blk_cell hb1 (k * 7 + 4)
      have e5 := blk_cell hb1 (k * 7 + 5)
      have e6 := blk_cell hb1 (k * 7 + 6)
      have hf := blk_frozen' hb1
      rw [Array.getElem?_eq_getElem (by rw [HS.out]; omega)] at e0 e1 e2 e3 e4 e5 e6
      have HB1 := Lib.hid hb1
      clear hb1 b1 h hv0 hv1 hv2 hv3 hv4 hv5 hv6
      go_wp2
      go_roundw
      case rel => exact ⟨k + 1, by omega, by go_num, ((((((B1.setCell (Nat.le_refl _) _).setCell (Nat.le_refl _) _).setCell (Nat.le_refl _) _).setCell (Nat.le_refl _) _).setCell (Nat.le_refl _) _).setCell (Nat.le_refl _) _).setCell (Nat.le_refl _) _, ((((((cs.setIfInBounds (k * 7) (.int .i64 d.c)).setIfInBounds (k * 7 + 1) (.int .i64 d.l)).setIfInBounds (k * 7 + 2) (.int .i64 d.o)).setIfInBounds (k * 7 + 3) (.int .i64 d.f)).setIfInBounds (k * 7 + 4) (.int .i64 d.h)).setIfInBounds (k * 7 + 5) (.int .i64 d.t)).setIfInBounds (k * 7 + 6) (.string d.e), blk_setCell (blk_setCell (blk_setCell (blk_setCell (blk_setCell (blk_setCell (blk_setCell HB1.out _) _) _) _) _) _) _, by simp [HS.out], fun j hj => recs_set HX.out (by rw [HS.out]; omega) HC.out j hj⟩
      case measure => simp [intOf]; omega
    · have e : k = n := by omega
      subst e
      clear h
      go_wp2
      go_ret
      have ho := ownV_made HB.out hz HS.out (Nat.le_refl _) (by unfold maxLen; omega) (by rw [recs_len, HL.out]) HC.out
      refine ⟨_, k, cs, rfl, HL.out.symm, Nat.le_refl _, HB.out, ?_, ho, B⟩
      apply List.ext_getElem?
      intro j
      rcases Nat.lt_or_ge j (k * 7) with hj | hj
      · rw [← HC.out j hj]; simp
      · rw [List.getElem?_eq_none (by simp [HS.out]; exact hj), List.getElem?_eq_none (by rw [recs_len, HL.out]; exact hj)]
set_option maxHeartbeats 2000000 in
theorem eqRecord_any (d e : RecD) (w : World) :
    Calls Try.prog 38 #[.agg #[.int .i64 d.c, .int .i64 d.l, .int .i64 d.o, .int .i64 d.f, .int .i64 d.h, .int .i64 d.t, .string d.e], .agg #[.int .i64 e.c, .int .i64 e.l, .int .i64 e.o, .int .i64 e.f, .int .i64 e.h, .int .i64 e.t, .string e.e]] w fun x w' => x = .returned (.bool (d == e)) ∧ Below w.heap.size w w' := by
  obtain ⟨x0, x1, x2, x3, x4, x5, x6⟩ := d
  obtain ⟨y0, y1, y2, y3, y4, y5, y6⟩ := e
  go_enter Try.func38, Try.ntmps38
  go_wp2
  all_goals go_ret
  all_goals refine ⟨ret_bool ?_, below_al (below_al (Below.refl _ _) _) _⟩
  all_goals first
    | (symm; rw [beq_eq_false_iff_ne]; intro h; injection h with h1 h2 h3 h4 h5 h6 h7; subst h1 h2 h3 h4 h5 h6 h7; simp_all; done)
    | (symm; rw [beq_iff_eq]; obtain rfl : x6 = y6 := str_eq (by simp_all); simp_all; done)
end Go.Proofs.Ytjcpjijihajopaa
namespace Go.Proofs.Ytjcpjijihajopaa
open Go.RowKit
set_option linter.unusedVariables false
section
variable {w W W' : World} {a0 a1 a2 a3 a4 a5 a6 b0 b1 b2 b3 b4 b5 b6 : Addr} {v0 v1 v2 v3 v4 v5 v6 u0 u1 u2 u3 u4 u5 u6 : Value}
/-- The cells of two structs, and all else as it was. -/
theorem held14_below (hb : Below W.heap.size W W')
    (h : W.cell? a0 = some v0 ∧ W.cell? a1 = some v1 ∧ W.cell? a2 = some v2 ∧ W.cell? a3 = some v3 ∧ W.cell? a4 = some v4 ∧ W.cell? a5 = some v5 ∧ W.cell? a6 = some v6 ∧ W.cell? b0 = some u0 ∧ W.cell? b1 = some u1 ∧ W.cell? b2 = some u2 ∧ W.cell? b3 = some u3 ∧ W.cell? b4 = some u4 ∧ W.cell? b5 = some u5 ∧ W.cell? b6 = some u6 ∧ Below w.heap.size w W) :
    W'.cell? a0 = some v0 ∧ W'.cell? a1 = some v1 ∧ W'.cell? a2 = some v2 ∧ W'.cell? a3 = some v3 ∧ W'.cell? a4 = some v4 ∧ W'.cell? a5 = some v5 ∧ W'.cell? a6 = some v6 ∧ W'.cell? b0 = some u0 ∧ W'.cell? b1 = some u1 ∧ W'.cell? b2 = some u2 ∧ W'.cell? b3 = some u3 ∧ W'.cell? b4 = some u4 ∧ W'.cell? b5 = some u5 ∧ W'.cell? b6 = some u6 ∧ Below w.heap.size w W' := by
  have e : ∀ {a : Addr} {v : Value}, W.cell? a = some v → W'.cell? a = some v := fun {a v} hv => (World.cell?_of_block (hb.block _ (World.block_lt_of_cell? W _ hv))).trans hv
  obtain ⟨h0, h1, h2, h3, h4, h5, h6, h7, h8, h9, h10, h11, h12, h13, h14⟩ := h
  exact ⟨e h0, e h1, e h2, e h3, e h4, e h5, e h6, e h7, e h8, e h9, e h10, e h11, e h12, e h13, below_step h14 hb⟩
theorem held14_drew 
    (h : W.cell? a0 = some v0 ∧ W.cell? a1 = some v1 ∧ W.cell? a2 = some v2 ∧ W.cell? a3 = some v3 ∧ W.cell? a4 = some v4 ∧ W.cell? a5 = some v5 ∧ W.cell? a6 = some v6 ∧ W.cell? b0 = some u0 ∧ W.cell? b1 = some u1 ∧ W.cell? b2 = some u2 ∧ W.cell? b3 = some u3 ∧ W.cell? b4 = some u4 ∧ W.cell? b5 = some u5 ∧ W.cell? b6 = some u6 ∧ Below w.heap.size w W) :
    W.drew.cell? a0 = some v0 ∧ W.drew.cell? a1 = some v1 ∧ W.drew.cell? a2 = some v2 ∧ W.drew.cell? a3 = some v3 ∧ W.drew.cell? a4 = some v4 ∧ W.drew.cell? a5 = some v5 ∧ W.drew.cell? a6 = some v6 ∧ W.drew.cell? b0 = some u0 ∧ W.drew.cell? b1 = some u1 ∧ W.drew.cell? b2 = some u2 ∧ W.drew.cell? b3 = some u3 ∧ W.drew.cell? b4 = some u4 ∧ W.drew.cell? b5 = some u5 ∧ W.drew.cell? b6 = some u6 ∧ Below w.heap.size w W.drew := by
  obtain ⟨h0, h1, h2, h3, h4, h5, h6, h7, h8, h9, h10, h11, h12, h13, h14⟩ := h
  exact ⟨h0, h1, h2, h3, h4, h5, h6, h7, h8, h9, h10, h11, h12, h13, ⟨h14.os, h14.tape, h14.output, h14.size, h14.block⟩⟩
end
set_option maxHeartbeats 4000000 in
theorem eqRecordS_any (lo hi n c lo' hi' n' c' : Nat) (A A' : Option Addr) (ds es : List RecD) (w : World) (h : Slc w lo hi 7 A n c (recs ds)) (h' : Slc w lo' hi' 7 A' n' c' (recs es)) (hn : n ≤ 1048576) (hn' : n' ≤ 1048576) :
    Calls Try.prog 13 #[.slice A n c, .slice A' n' c'] w fun x w' => x = .returned (.bool (ds == es)) ∧ Below w.heap.size w w' := by
  have hl := Lib.hid h.recLen
  have hl' := Lib.hid h'.recLen
  by_cases hne : n = n'
  · subst hne
    go_enter Try.func13, Try.ntmps13
    go_wp2
    go_loopw [5] (fun i wr => ∃ k : Nat, k ≤ n ∧ i = .int .i64 k ∧ Below w.heap.size w wr ∧ ∀ j, j < k → ds[j]? = es[j]?) (fun i _ => n - (intOf i).toNat)
    case atStart => exact ⟨0, Nat.zero_le _, rfl, Below.refl _ _, fun j hj => absurd hj (by omega)⟩
    case round =>
      obtain ⟨k, hk, rfl, B, hcs⟩ := hrel
      have HC := Lib.hid hcs
      clear hcs
      by_cases hlt : k < n
      · obtain ⟨b, off, d, hA, _, _, h3, hxk, hv0, hv1, hv2, hv3, hv4, hv5, hv6⟩ := (h.below B).rec7 hlt
        obtain ⟨b', off', e, hA', _, _, h3', hxk', hv0', hv1', hv2', hv3', hv4', hv5', hv6'⟩ := (h'.below B).rec7 hlt
        subst hA hA'
        have HX := Lib.hid hxk
        have HX' := Lib.hid hxk'
        have S0 : wr.cell? ⟨b, off + k * 7, none⟩ = some (.int .i64 d.c) ∧ wr.cell? ⟨b, off + k * 7 + 1, none⟩ = some (.int .i64 d.l) ∧ wr.cell? ⟨b, off + k * 7 + 2, none⟩ = some (.int .i64 d.o) ∧ wr.cell? ⟨b, off + k * 7 + 3, none⟩ = some (.int .i64 d.f) ∧ wr.cell? ⟨b, off + k * 7 + 4, none⟩ = some (.int .i64 d.h) ∧ wr.cell? ⟨b, off + k * 7 + 5, none⟩ = some (.int .i64 d.t) ∧ wr.cell? ⟨b, off + k * 7 + 6, none⟩ = some (.string d.e) ∧ wr.cell? ⟨b', off' + k * 7, none⟩ = some (.int .i64 e.c) ∧ wr.cell? ⟨b', off' + k * 7 + 1, none⟩ = some (.int .i64 e.l) ∧ wr.cell? ⟨b', off' + k * 7 + 2, none⟩ = some (.int .i64 e.o) ∧ wr.cell? ⟨b', off' + k * 7 + 3, none⟩ = some (.int .i64 e.f) ∧ wr.cell? ⟨b', off' + k * 7 + 4, none⟩ = some (.int .i64 e.h) ∧ wr.cell? ⟨b', off' + k * 7 + 5, none⟩ = some (.int .i64 e.t) ∧ wr.cell? ⟨b', off' + k * 7 + 6, none⟩ = some (.string e.e) ∧ Below w.heap.size w wr := ⟨hv0, hv1, hv2, hv3, hv4, hv5, hv6, hv0', hv1', hv2', hv3', hv4', hv5', hv6', B⟩
        clear hxk hxk' h h' hv0 hv1 hv2 hv3 hv4 hv5 hv6 hv0' hv1' hv2' hv3' hv4' hv5' hv6' h3 h3' B
        have i0 : (0 : Int) ≤ (k : Int) := by omega
        have i1 : (k : Int) < (n : Int) := by omega
        obtain ⟨t, ht⟩ : ∃ t, t = (d == e) := ⟨_, rfl⟩
        have HT := Lib.hid ht
        clear ht
        go_wp2_with fail
        go_region_held3 (fun W => W.cell? ⟨b, off + k * 7, none⟩ = some (.int .i64 d.c) ∧ W.cell? ⟨b, off + k * 7 + 1, none⟩ = some (.int .i64 d.l) ∧ W.cell? ⟨b, off + k * 7 + 2, none⟩ = some (.int .i64 d.o) ∧ W.cell? ⟨b, off + k * 7 + 3, none⟩ = some (.int .i64 d.f) ∧ W.cell? ⟨b, off + k * 7 + 4, none⟩ = some (.int .i64 d.h) ∧ W.cell? ⟨b, off + k * 7 + 5, none⟩ = some (.int .i64 d.t) ∧ W.cell? ⟨b, off + k * 7 + 6, none⟩ = some (.string d.e) ∧ W.cell? ⟨b', off' + k * 7, none⟩ = some (.int .i64 e.c) ∧ W.cell? ⟨b', off' + k * 7 + 1, none⟩ = some (.int .i64 e.l) ∧ W.cell? ⟨b', off' + k * 7 + 2, none⟩ = some (.int .i64 e.o) ∧ W.cell? ⟨b', off' + k * 7 + 3, none⟩ = some (.int .i64 e.f) ∧ W.cell? ⟨b', off' + k * 7 + 4, none⟩ = some (.int .i64 e.h) ∧ W.cell? ⟨b', off' + k * 7 + 5, none⟩ = some (.int .i64 e.t) ∧ W.cell? ⟨b', off' + k * 7 + 6, none⟩ = some (.string e.e) ∧ Below w.heap.size w W)
          (first | exact held14_drew S0 | exact held14_below (by assumption) (by assumption))
          (first | (go_at_call 38; refine (eqRecord_any d e _).mono ?_; rintro x w2 ⟨rfl, b2⟩; rw [← HT.out]))
        have S2 : Below w.heap.size w w2 := by
          have S1 : w2.cell? ⟨b, off + k * 7, none⟩ = some (.int .i64 d.c) ∧ w2.cell? ⟨b, off + k * 7 + 1, none⟩ = some (.int .i64 d.l) ∧ w2.cell? ⟨b, off + k * 7 + 2, none⟩ = some (.int .i64 d.o) ∧ w2.cell? ⟨b, off + k * 7 + 3, none⟩ = some (.int .i64 d.f) ∧ w2.cell? ⟨b, off + k * 7 + 4, none⟩ = some (.int .i64 d.h) ∧ w2.cell? ⟨b, off + k * 7 + 5, none⟩ = some (.int .i64 d.t) ∧ w2.cell? ⟨b, off + k * 7 + 6, none⟩ = some (.string d.e) ∧ w2.cell? ⟨b', off' + k * 7, none⟩ = some (.int .i64 e.c) ∧ w2.cell? ⟨b', off' + k * 7 + 1, none⟩ = some (.int .i64 e.l) ∧ w2.cell? ⟨b', off' + k * 7 + 2, none⟩ = some (.int .i64 e.o) ∧ w2.cell? ⟨b', off' + k * 7 + 3, none⟩ = some (.int .i64 e.f) ∧ w2.cell? ⟨b', off' + k * 7 + 4, none⟩ = some (.int .i64 e.h) ∧ w2.cell? ⟨b', off' + k * 7 + 5, none⟩ = some (.int .i64 e.t) ∧ w2.cell? ⟨b', off' + k * 7 + 6, none⟩ = some (.string e.e) ∧ Below w.heap.size w w2 := by assumption
          exact S1.2.2.2.2.2.2.2.2.2.2.2.2.2.2
        clear S0
        cases t
        · go_wp2
          go_ret
          refine ⟨ret_bool ?_, S2⟩
          symm
          rw [beq_eq_false_iff_ne]
          intro hh
          subst hh
          have := HX.out.symm.trans HX'.out
          injection this with this
          subst this
          simpa using HT.out
        · go_wp2
          go_roundw
          case rel => exact ⟨k + 1, by omega, by go_num, S2, fun j hj => by
            by_cases e : j = k
            · subst e; rw [HX.out, HX'.out, eq_of_beq HT.out.symm]
            · exact HC.out j (by omega)⟩
          case measure => simp [intOf]; omega
      · have e : k = n := by omega
        subst e
        clear h h'
        go_wp2
        go_ret
        exact ⟨ret_bool (by
          symm; rw [beq_iff_eq]; apply List.ext_getElem?; intro j
          rcases Nat.lt_or_ge j k with hj | hj
          · exact HC.out j hj
          · rw [List.getElem?_eq_none (by rw [hl.out]; exact hj), List.getElem?_eq_none (by rw [hl'.out]; exact hj)]), B⟩
  · have hq : ((n : Int) != (n' : Int)) = true := by rw [bne_iff_ne]; omega
    clear h h'
    have HN := Lib.hid hne
    clear hne
    go_enter Try.func13, Try.ntmps13
    go_wp2
    go_ret
    exact ⟨ret_bool (by symm; rw [beq_eq_false_iff_ne]; intro e; exact HN.out (by rw [← hl.out, ← hl'.out, e])), Below.refl _ _⟩
def szRecF (l : Int) : List RecD → Int
  | [] => l
  | d :: ds => if l < d.e.size then -1 else szRecF (l - d.e.size) ds
/-- What szDeedS answers. -/
def szRecN (l : Int) (n : Nat) (ds : List RecD) : Int := if l < n then -1 else szRecF (l - n) ds
theorem szRecF_le {ds : List RecD} : ∀ {l : Int}, 0 ≤ l → szRecF l ds ≤ l := by
  induction ds with
  | nil => intro l h0; rw [szRecF]; omega
  | cons d ds ih =>
    intro l h0
    rw [szRecF]
    split
    · omega
    · have := ih (l := l - d.e.size) (by omega); omega
theorem szRecF_all {ds : List RecD} : ∀ {l : Int}, 0 ≤ szRecF l ds → l ≤ 1048576 → ∀ d ∈ ds, d.e.size ≤ 1048576 := by
  induction ds with
  | nil => intro l _ _ d hd; cases hd
  | cons q ds ih =>
    intro l h hl d hd
    rw [szRecF] at h
    split at h
    · omega
    · rcases List.mem_cons.1 hd with e | hd
      · subst e; omega
      · exact ih h (by omega) d hd
theorem szRecN_all {l : Int} {n : Nat} {ds : List RecD} (h : 0 ≤ szRecN l n ds) (hl : l ≤ 1048576) : n ≤ 1048576 ∧ ∀ d ∈ ds, d.e.size ≤ 1048576 := by
  unfold szRecN at h
  split at h
  · omega
  · exact ⟨by omega, szRecF_all h (by omega)⟩
theorem szRecN_le {l : Int} {n : Nat} {ds : List RecD} (h : 0 ≤ l) : szRecN l n ds ≤ l := by
  unfold szRecN
  split
  · omega
  · have := szRecF_le (ds := ds) (l := l - n) (by omega); omega
theorem drop_get' {α : Type} {l : List α} {k : Nat} {a : α} (h : l[k]? = some a) : l.drop k = a :: l.drop (k + 1) := by
  obtain ⟨hk, e⟩ := List.getElem?_eq_some_iff.1 h
  rw [List.drop_eq_getElem_cons hk, e]
set_option maxHeartbeats 1000000 in
theorem szRecord_any (d : RecD) (l : Int) (w : World) (h0 : 0 ≤ l) (h1 : l ≤ 1048576) (hs : d.e.size ≤ maxLen) :
    Calls Try.prog 29 #[.agg #[.int .i64 d.c, .int .i64 d.l, .int .i64 d.o, .int .i64 d.f, .int .i64 d.h, .int .i64 d.t, .string d.e], .int .i64 l] w fun e w' => e = .returned (.int .i64 (if l < d.e.size then -1 else l - d.e.size)) ∧ Below w.heap.size w w' := by
  unfold maxLen at hs
  by_cases hl : l < d.e.size
  · rw [if_pos hl]
    have hx : l - d.e.size < 0 := by omega
    go_enter Try.func29, Try.ntmps29
    go_wp2
    go_ret
    exact ⟨rfl, below_al (Below.refl _ _) _⟩
  · rw [if_neg hl]
    have hx : 0 ≤ l - d.e.size := by omega
    go_enter Try.func29, Try.ntmps29
    go_wp2
    go_ret
    exact ⟨rfl, below_al (Below.refl _ _) _⟩
set_option maxHeartbeats 1000000 in
theorem szRecordS_any (lo hi n c : Nat) (A : Option Addr) (ds : List RecD) (l : Int) (w : World) (h : Slc w lo hi 7 A n c (recs ds)) (hd : ∀ d ∈ ds, d.e.size ≤ maxLen) (h0 : 0 ≤ l) (h1 : l ≤ 1048576) :
    Calls Try.prog 9 #[.slice A n c, .int .i64 l] w fun e w' => e = .returned (.int .i64 (szRecN l n ds)) ∧ Below w.heap.size w w' := by
  have hc1 := h.le
  have hc2 := h.cap
  unfold maxLen at hc2
  by_cases hl : l < n
  · have hx : l - n < 0 := by omega
    have H := Lib.hid (if_pos hl : szRecN l n ds = -1)
    clear h
    go_enter Try.func9, Try.ntmps9
    go_wp2
    go_ret
    exact ⟨ret_int H.out.symm, Below.refl _ _⟩
  · have hx : 0 ≤ l - n := by omega
    have H := Lib.hid (if_neg hl : szRecN l n ds = szRecF (l - n) ds)
    have HL := Lib.hid h.recLen
    have HD := Lib.hid hd
    clear hd
    go_enter Try.func9, Try.ntmps9
    go_wp2
    go_loopw [1, 5] (fun q i wr => ∃ (k : Nat) (m : Int), k ≤ n ∧ q = .int .i64 m ∧ i = .int .i64 k ∧ 0 ≤ m ∧ m ≤ 1048576 ∧ szRecF m (ds.drop k) = szRecF (l - n) ds ∧ Below w.heap.size w wr) (fun _ i _ => n - (intOf i).toNat)
    case atStart => exact ⟨0, l - n, Nat.zero_le _, rfl, rfl, by omega, by omega, by simp, Below.refl _ _⟩
    case round =>
      obtain ⟨k, m, hk, rfl, rfl, m0, m1, hs, B⟩ := hrel
      by_cases hlt : k < n
      · obtain ⟨b, off, d, rfl, _, _, h3, hxk, hv0, hv1, hv2, hv3, hv4, hv5, hv6⟩ := (h.below B).rec7 hlt
        rw [drop_get' hxk, szRecF] at hs
        have hdl := HD.out d (List.mem_of_getElem? hxk)
        clear h hxk
        by_cases hm : m < d.e.size
        · rw [if_pos hm] at hs
          have HS := Lib.hid hs
          clear hs
          go_wp2_with fail
          refine (szRecord_any d m _ m0 m1 hdl).mono ?_
          rintro e w1 ⟨rfl, b1⟩
          rw [if_pos hm]
          have B1 := below_step B b1
          clear hv0 hv1 hv2 hv3 hv4 hv5 hv6 b1
          go_wp2
          go_ret
          exact ⟨ret_int (HS.out.trans H.out.symm), B1⟩
        · rw [if_neg hm] at hs
          have HS := Lib.hid hs
          clear hs
          have hmm : 0 ≤ m - d.e.size := by omega
          go_wp2_with fail
          refine (szRecord_any d m _ m0 m1 hdl).mono ?_
          rintro e w1 ⟨rfl, b1⟩
          rw [if_neg (by omega)]
          have B1 := below_step B b1
          clear hv0 hv1 hv2 hv3 hv4 hv5 hv6 b1
          go_wp2
          go_roundw
          case rel => exact ⟨k + 1, m - d.e.size, by omega, rfl, by go_num, by omega, by omega, HS.out, B1⟩
          case measure => simp [intOf]; omega
      · have e : k = n := by omega
        subst e
        rw [List.drop_of_length_le (by rw [HL.out]; exact Nat.le_refl _), szRecF] at hs
        have HS := Lib.hid hs
        clear hs h
        go_wp2
        go_ret
        exact ⟨ret_int (HS.out.trans H.out.symm), B⟩
end Go.Proofs.Ytjcpjijihajopaa
namespace Go.Proofs.Ytjcpjijihajopaa
open Go.RowKit
set_option linter.unusedVariables false
theorem allF_snoc {α : Type} {p : α → Bool} {l : List α} {k : Nat} {a : α} (h : ∀ j, j < k → ∀ b, l[j]? = some b → p b = true) (hk : l[k]? = some a) (ha : p a = true) : ∀ j, j < k + 1 → ∀ b, l[j]? = some b → p b = true := by
  intro j hj b hb
  by_cases e : j = k
  · subst e; rw [hk] at hb; injection hb with hb; subst hb; exact ha
  · exact h j (by omega) b hb
theorem allF_of {α : Type} {p : α → Bool} {l : List α} {k : Nat} (h : ∀ j, j < k → ∀ b, l[j]? = some b → p b = true) (hk : l.length ≤ k) : l.all p = true := by
  rw [List.all_eq_true]; intro a ha
  obtain ⟨j, hj, e⟩ := List.mem_iff_getElem.1 ha
  exact h j (by omega) a (by rw [List.getElem?_eq_getElem hj, e])
theorem allF_not {α : Type} {p : α → Bool} {l : List α} {k : Nat} {a : α} (hk : l[k]? = some a) (ha : p a = false) : l.all p = false := by
  rw [List.all_eq_false]; exact ⟨a, List.mem_of_getElem? hk, by simp [ha]⟩
def recOk (d : RecD) : Bool := recB d.c d.l d.o d.f d.h d.t d.e.toList
def validR (ds : List RecD) : Bool := decide (ds.length ≤ 60) && ds.all recOk
def lateB (k : Int) (d : RecD) : Bool := decide (d.f ≤ k ∧ d.h ≤ k ∧ d.t ≤ k)
def clockB (ds : List RecD) (k : Int) : Bool := validR ds && decide (0 ≤ k ∧ k ≤ 3600) && ds.all (lateB k)
theorem validR_not {ds : List RecD} (h : ds.all recOk = false) : validR ds = false := by simp only [validR, h, Bool.and_false]
theorem validR_all {ds : List RecD} (h : ds.all recOk = true) : validR ds = decide (ds.length ≤ 60) := by simp only [validR, h, Bool.and_true]
theorem validR_len {ds : List RecD} (h : ¬ ds.length ≤ 60) : validR ds = false := by simp only [validR, h, decide_false, Bool.false_and]
theorem recOk_spec (d : RecD) (w : World) : Calls Try.prog 58 #[.agg #[.int .i64 d.c, .int .i64 d.l, .int .i64 d.o, .int .i64 d.f, .int .i64 d.h, .int .i64 d.t, .string d.e]] w fun x w' => x = .returned (.bool (recOk d)) ∧ Below w.heap.size w w' := spec_RecordValid _ _ _ _ _ _ _ _
theorem recOk_impl (d : RecD) (w : World) : Calls Try.prog 53 #[.agg #[.int .i64 d.c, .int .i64 d.l, .int .i64 d.o, .int .i64 d.f, .int .i64 d.h, .int .i64 d.t, .string d.e]] w fun x w' => x = .returned (.bool (recOk d)) ∧ Below w.heap.size w w' := impl_RecordValid _ _ _ _ _ _ _ _
set_option maxHeartbeats 1000000 in
theorem spec_l8Valid (lo hi n c : Nat) (A : Option Addr) (ds : List RecD) (w : World) (h : Slc w lo hi 7 A n c (recs ds)) (hn : n ≤ 1048576) :
    Calls Try.prog 41 #[.slice A n c] w fun e w' => e = .returned (.bool (validR ds)) ∧ Below w.heap.size w w' := by
  have hl := Lib.hid h.recLen
  go_enter Try.func41, Try.ntmps41
  go_wp2
  go_loopw [3] (fun i wr => ∃ k : Nat, k ≤ n ∧ i = .int .i64 k ∧ Below w.heap.size w wr ∧ ∀ j, j < k → ∀ b, ds[j]? = some b → recOk b = true) (fun i _ => n - (intOf i).toNat)
  case atStart => exact ⟨0, Nat.zero_le _, rfl, Below.refl _ _, fun j hj => absurd hj (by omega)⟩
  case round =>
    obtain ⟨k, hk, rfl, B, hcs⟩ := hrel
    have HC := Lib.hid hcs
    clear hcs
    by_cases hlt : k < n
    · obtain ⟨b, off, d, hA, _, _, h3, hxk, hv0, hv1, hv2, hv3, hv4, hv5, hv6⟩ := (h.below B).rec7 hlt
      subst hA
      have HX := Lib.hid hxk
      clear hxk h
      obtain ⟨t, ht⟩ : ∃ t, t = recOk d := ⟨_, rfl⟩
      have HT := Lib.hid ht
      clear ht
      go_wp2_with fail
      refine (recOk_spec d _).mono ?_
      rintro e w1 ⟨rfl, b1⟩
      have B1 := below_step B b1
      rw [← HT.out]
      clear hv0 hv1 hv2 hv3 hv4 hv5 hv6 h3 b1 B
      cases t
      · go_wp2
        go_ret
        exact ⟨ret_bool (by symm; rw [validR_not (allF_not HX.out HT.out.symm)]), B1⟩
      · go_wp2
        go_roundw
        case rel => exact ⟨k + 1, by omega, by go_num, B1, allF_snoc HC.out HX.out HT.out.symm⟩
        case measure => simp [intOf]; omega
    · have e : n = k := by omega
      subst e
      have HA := Lib.hid (allF_of (p := recOk) HC.out (by rw [hl.out]; exact Nat.le_refl _))
      clear h
      by_cases h60 : n ≤ 60
      · go_wp2
        go_ret
        exact ⟨ret_bool (by symm; rw [validR_all HA.out, hl.out]; simp [h60]; omega), B⟩
      · go_wp2
        go_ret
        exact ⟨ret_bool (by symm; rw [validR_all HA.out, hl.out]; simp [h60]; omega), B⟩
set_option maxHeartbeats 1000000 in
theorem impl_recordsValid (lo hi n c : Nat) (A : Option Addr) (ds : List RecD) (w : World) (h : Slc w lo hi 7 A n c (recs ds)) (hn : n ≤ 1048576) :
    Calls Try.prog 45 #[.slice A n c] w fun e w' => e = .returned (.bool (validR ds)) ∧ Below w.heap.size w w' := by
  have hl := Lib.hid h.recLen
  by_cases h60 : n ≤ 60
  · go_enter Try.func45, Try.ntmps45
    go_wp2
    go_loopw [10] (fun i wr => ∃ k : Nat, k ≤ n ∧ i = .int .i64 k ∧ Below w.heap.size w wr ∧ ∀ j, j < k → ∀ b, ds[j]? = some b → recOk b = true) (fun i _ => n - (intOf i).toNat)
    case atStart => exact ⟨0, Nat.zero_le _, rfl, Below.refl _ _, fun j hj => absurd hj (by omega)⟩
    case round =>
      obtain ⟨k, hk, rfl, B, hcs⟩ := hrel
      have HC := Lib.hid hcs
      clear hcs
      by_cases hlt : k < n
      · obtain ⟨b, off, d, hA, _, _, h3, hxk, hv0, hv1, hv2, hv3, hv4, hv5, hv6⟩ := (h.below B).rec7 hlt
        subst hA
        have HX := Lib.hid hxk
        clear hxk h
        obtain ⟨t, ht⟩ : ∃ t, t = recOk d := ⟨_, rfl⟩
        have HT := Lib.hid ht
        clear ht
        go_wp2_with fail
        refine (recOk_impl d _).mono ?_
        rintro e w1 ⟨rfl, b1⟩
        have B1 := below_step (below_al B _) b1
        rw [← HT.out]
        clear hv0 hv1 hv2 hv3 hv4 hv5 hv6 h3 b1 B
        cases t
        · go_wp2
          go_ret
          exact ⟨ret_bool (by symm; rw [validR_not (allF_not HX.out HT.out.symm)]), B1⟩
        · go_wp2
          go_roundw
          case rel => exact ⟨k + 1, by omega, by go_num, B1, allF_snoc HC.out HX.out HT.out.symm⟩
          case measure => simp [intOf]; omega
      · have e : n = k := by omega
        subst e
        have HA := Lib.hid (allF_of (p := recOk) HC.out (by rw [hl.out]; exact Nat.le_refl _))
        clear h
        go_wp2
        go_ret
        exact ⟨ret_bool (by symm; rw [validR_all HA.out, hl.out]; simp [h60]), B⟩
  · clear h
    go_enter Try.func45, Try.ntmps45
    go_wp2
    go_ret
    exact ⟨ret_bool (by symm; rw [validR_len (by rw [hl.out]; exact h60)]), Below.refl _ _⟩
/-- When a record's call was on its line no more. -/
def endF (k : Int) (d : RecD) : Int := if d.t = -1 then k else d.t
set_option maxHeartbeats 1000000 in
theorem impl_endAt (d : RecD) (k : Int) (w : World) : Calls Try.prog 37 #[.agg #[.int .i64 d.c, .int .i64 d.l, .int .i64 d.o, .int .i64 d.f, .int .i64 d.h, .int .i64 d.t, .string d.e], .int .i64 k] w fun x w' => x = .returned (.int .i64 (endF k d)) ∧ Below w.heap.size w w' := by
  go_enter Try.func37, Try.ntmps37
  go_wp2
  all_goals go_ret
  all_goals refine ⟨ret_int ?_, below_al (Below.refl _ _) _⟩
  all_goals simp_all [endF]
set_option maxHeartbeats 1000000 in
theorem spec_l8To (d : RecD) (k : Int) (w : World) : Calls Try.prog 32 #[.agg #[.int .i64 d.c, .int .i64 d.l, .int .i64 d.o, .int .i64 d.f, .int .i64 d.h, .int .i64 d.t, .string d.e], .int .i64 k] w fun x w' => x = .returned (.int .i64 (if d.t < 0 then k else d.t)) ∧ Below w.heap.size w w' := by
  go_enter Try.func32, Try.ntmps32
  go_wp2
  all_goals go_ret
  all_goals refine ⟨ret_int ?_, below_al (Below.refl _ _) _⟩
  all_goals simp_all
  all_goals omega
end Go.Proofs.Ytjcpjijihajopaa
namespace Go.Proofs.Ytjcpjijihajopaa
open Go.RowKit
set_option linter.unusedVariables false
theorem clockB_valid {ds : List RecD} {k : Int} (h : validR ds = false) : clockB ds k = false := by simp only [clockB, h, Bool.false_and]
theorem clockB_late {ds : List RecD} {k : Int} (h : ds.all (lateB k) = false) : clockB ds k = false := by simp only [clockB, h, Bool.and_false]
theorem clockB_range {ds : List RecD} {k : Int} (h : ¬ (0 ≤ k ∧ k ≤ 3600)) : clockB ds k = false := by simp only [clockB, h, decide_false, Bool.and_false, Bool.false_and]
theorem clockB_all {ds : List RecD} {k : Int} (h : ds.all (lateB k) = true) : clockB ds k = (validR ds && decide (0 ≤ k ∧ k ≤ 3600)) := by simp only [clockB, h, Bool.and_true]
section
variable {w W W' : World} {a0 a1 a2 : Addr} {v0 v1 v2 : Value}
theorem held3_below (hb : Below W.heap.size W W') (h : W.cell? a0 = some v0 ∧ W.cell? a1 = some v1 ∧ W.cell? a2 = some v2 ∧ Below w.heap.size w W) : W'.cell? a0 = some v0 ∧ W'.cell? a1 = some v1 ∧ W'.cell? a2 = some v2 ∧ Below w.heap.size w W' := by
  have e : ∀ {a : Addr} {v : Value}, W.cell? a = some v → W'.cell? a = some v := fun {a v} hv => (World.cell?_of_block (hb.block _ (World.block_lt_of_cell? W _ hv))).trans hv
  exact ⟨e h.1, e h.2.1, e h.2.2.1, below_step h.2.2.2 hb⟩
theorem held3_drew (h : W.cell? a0 = some v0 ∧ W.cell? a1 = some v1 ∧ W.cell? a2 = some v2 ∧ Below w.heap.size w W) : W.drew.cell? a0 = some v0 ∧ W.drew.cell? a1 = some v1 ∧ W.drew.cell? a2 = some v2 ∧ Below w.heap.size w W.drew :=
  ⟨h.1, h.2.1, h.2.2.1, ⟨h.2.2.2.os, h.2.2.2.tape, h.2.2.2.output, h.2.2.2.size, h.2.2.2.block⟩⟩
end
set_option maxHeartbeats 2000000 in
theorem spec_l8Clock (lo hi n c : Nat) (A : Option Addr) (ds : List RecD) (q : Int) (w : World) (h : Slc w lo hi 7 A n c (recs ds)) (hn : n ≤ 1048576) :
    Calls Try.prog 30 #[.slice A n c, .int .i64 q] w fun e w' => e = .returned (.bool (clockB ds q)) ∧ Below w.heap.size w w' := by
  have hl := Lib.hid h.recLen
  go_enter Try.func30, Try.ntmps30
  go_wp2
  go_loopw [5] (fun i wr => ∃ k : Nat, k ≤ n ∧ i = .int .i64 k ∧ Below w.heap.size w wr ∧ ∀ j, j < k → ∀ b, ds[j]? = some b → lateB q b = true) (fun i _ => n - (intOf i).toNat)
  case atStart => exact ⟨0, Nat.zero_le _, rfl, Below.refl _ _, fun j hj => absurd hj (by omega)⟩
  case round =>
    obtain ⟨k, hk, rfl, B, hcs⟩ := hrel
    have HC := Lib.hid hcs
    clear hcs
    by_cases hlt : k < n
    · obtain ⟨b, off, d, hA, _, _, h3, hxk, hv0, hv1, hv2, hv3, hv4, hv5, hv6⟩ := (h.below B).rec7 hlt
      subst hA
      have HX := Lib.hid hxk
      have S0 : wr.cell? ⟨b, off + k * 7 + 3, none⟩ = some (.int .i64 d.f) ∧ wr.cell? ⟨b, off + k * 7 + 4, none⟩ = some (.int .i64 d.h) ∧ wr.cell? ⟨b, off + k * 7 + 5, none⟩ = some (.int .i64 d.t) ∧ Below w.heap.size w wr := ⟨hv3, hv4, hv5, B⟩
      clear hxk h hv0 hv1 hv2 hv3 hv4 hv5 hv6 h3 B
      have i0 : (0 : Int) ≤ (k : Int) := by omega
      have i1 : (k : Int) < (n : Int) := by omega
      go_wp2_with fail
      go_region_held3 (fun W => W.cell? ⟨b, off + k * 7 + 3, none⟩ = some (.int .i64 d.f) ∧ W.cell? ⟨b, off + k * 7 + 4, none⟩ = some (.int .i64 d.h) ∧ W.cell? ⟨b, off + k * 7 + 5, none⟩ = some (.int .i64 d.t) ∧ Below w.heap.size w W)
        (first | exact held3_drew S0 | exact held3_below (by assumption) (by assumption) | exact held3_drew (by assumption))
        (first | fail)
      have S2 : Below w.heap.size w wr.drew := ⟨S0.2.2.2.os, S0.2.2.2.tape, S0.2.2.2.output, S0.2.2.2.size, S0.2.2.2.block⟩
      clear S0
      have ht : decide (q < if (if d.f < d.h then d.h else d.f) < d.t then d.t else if d.f < d.h then d.h else d.f) = !(lateB q d) := by
        rw [Bool.eq_iff_iff]
        simp only [lateB, decide_eq_true_eq, Bool.not_eq_true', decide_eq_false_iff_not]
        by_cases h1 : d.f < d.h
        · rw [if_pos h1]; by_cases h2 : d.h < d.t
          · rw [if_pos h2]; omega
          · rw [if_neg h2]; omega
        · rw [if_neg h1]; by_cases h2 : d.f < d.t
          · rw [if_pos h2]; omega
          · rw [if_neg h2]; omega
      rw [ht]
      obtain ⟨t, htt⟩ : ∃ t, t = !(lateB q d) := ⟨_, rfl⟩
      rw [← htt]
      have HT := Lib.hid htt
      clear ht htt
      cases t
      · have HT2 := Lib.hid (show lateB q d = true by have := HT.out; revert this; cases lateB q d <;> simp)
        go_wp2
        go_roundw
        case rel => exact ⟨k + 1, by omega, by go_num, S2, allF_snoc HC.out HX.out HT2.out⟩
        case measure => simp [intOf]; omega
      · have HT2 := Lib.hid (show lateB q d = false by have := HT.out; revert this; cases lateB q d <;> simp)
        go_wp2
        all_goals go_ret
        all_goals exact ⟨ret_bool (by symm; rw [clockB_late (allF_not HX.out HT2.out)]), S2⟩
    · have e : n = k := by omega
      subst e
      have HA := Lib.hid (allF_of (p := lateB q) HC.out (by rw [hl.out]; exact Nat.le_refl _))
      have hb := h.below B
      clear h
      obtain ⟨t, ht⟩ : ∃ t, t = validR ds := ⟨_, rfl⟩
      have HT := Lib.hid ht
      clear ht
      go_wp2_with fail
      refine (spec_l8Valid _ _ _ _ _ _ _ hb hn).mono ?_
      rintro e w1 ⟨rfl, b1⟩
      rw [← HT.out]
      have B1 := below_step B b1
      clear hb b1 B
      cases t
      · go_wp2
        go_ret
        exact ⟨ret_bool (by symm; rw [clockB_valid HT.out.symm]), B1⟩
      · go_wp2_with ((go_at_call 31; refine (l1In_any _ _ _ _).mono ?_; rintro e w' ⟨rfl, rfl⟩))
        go_ret
        exact ⟨ret_bool (by symm; rw [clockB_all HA.out, ← HT.out]; simp [inB]), B1⟩
set_option maxHeartbeats 2000000 in
theorem impl_clockValid (lo hi n c : Nat) (A : Option Addr) (ds : List RecD) (q : Int) (w : World) (h : Slc w lo hi 7 A n c (recs ds)) (hn : n ≤ 1048576) :
    Calls Try.prog 34 #[.slice A n c, .int .i64 q] w fun e w' => e = .returned (.bool (clockB ds q)) ∧ Below w.heap.size w w' := by
  have hl := Lib.hid h.recLen
  obtain ⟨t, ht⟩ : ∃ t, t = validR ds := ⟨_, rfl⟩
  have HT := Lib.hid ht
  clear ht
  go_enter Try.func34, Try.ntmps34
  go_wp2_with fail
  refine (impl_recordsValid _ _ _ _ _ _ _ h hn).mono ?_
  rintro e w0 ⟨rfl, b0⟩
  rw [← HT.out]
  have h0 := h.below b0
  have B0 := below_step (Below.refl _ _) b0
  clear h b0
  cases t
  · clear h0
    go_wp2
    go_ret
    exact ⟨ret_bool (by symm; rw [clockB_valid HT.out.symm]), B0⟩
  · by_cases hq : 0 ≤ q ∧ q ≤ 3600
    · obtain ⟨q0, q1⟩ := hq
      go_wp2
      go_loopw [20] (fun i wr => ∃ k : Nat, k ≤ n ∧ i = .int .i64 k ∧ Below w0.heap.size w0 wr ∧ ∀ j, j < k → ∀ b, ds[j]? = some b → lateB q b = true) (fun i _ => n - (intOf i).toNat)
      case atStart => exact ⟨0, Nat.zero_le _, rfl, Below.refl _ _, fun j hj => absurd hj (by omega)⟩
      case round =>
        obtain ⟨k, hk, rfl, B, hcs⟩ := hrel
        have HC := Lib.hid hcs
        clear hcs
        by_cases hlt : k < n
        · obtain ⟨b, off, d, hA, _, _, h3, hxk, hv0, hv1, hv2, hv3, hv4, hv5, hv6⟩ := (h0.below B).rec7 hlt
          subst hA
          have HX := Lib.hid hxk
          clear hxk h0
          by_cases hd : d.f ≤ q ∧ d.h ≤ q ∧ d.t ≤ q
          · obtain ⟨d0, d1, d2⟩ := hd
            have e0 : ¬ q < d.f := by omega
            have e1 : ¬ q < d.h := by omega
            have e2 : ¬ q < d.t := by omega
            have HD := Lib.hid (show lateB q d = true by simp [lateB, d0, d1, d2])
            clear d0 d1 d2
            go_wp2
            go_roundw
            case rel => exact ⟨k + 1, by omega, by go_num, below_al B _, allF_snoc HC.out HX.out HD.out⟩
            case measure => simp [intOf]; omega
          · have HD := Lib.hid (show lateB q d = false by simp only [lateB, hd, decide_false])
            have HN := Lib.hid hd
            clear hd
            go_wp2
            all_goals first
              | (go_ret; exact ⟨ret_bool (by symm; rw [clockB_late (allF_not HX.out HD.out)]), B0.trans ((below_al B _).mono B0.size)⟩)
              | (exfalso; have := HN.out; omega)
        · have e : n = k := by omega
          subst e
          have HA := Lib.hid (allF_of (p := lateB q) HC.out (by rw [hl.out]; exact Nat.le_refl _))
          clear h0
          go_wp2
          go_ret
          exact ⟨ret_bool (by symm; rw [clockB_all HA.out, ← HT.out]; simp [q0, q1]), B0.trans (B.mono B0.size)⟩
    · have HQ := Lib.hid hq
      clear hq h0
      go_wp2
      all_goals first
        | (go_ret; exact ⟨ret_bool (by symm; rw [clockB_range HQ.out]), B0⟩)
        | (exfalso; have := HQ.out; omega)
end Go.Proofs.Ytjcpjijihajopaa
namespace Go.Proofs.Ytjcpjijihajopaa
open Go.RowKit
set_option linter.unusedVariables false
def sumR (f : RecD → Int) (ds : List RecD) : Int := (ds.map f).sum
theorem sumR_succ {f : RecD → Int} {ds : List RecD} {k : Nat} {d : RecD} (h : ds[k]? = some d) : sumR f (ds.take (k + 1)) = sumR f (ds.take k) + f d := by
  unfold sumR
  rw [List.take_add_one, h]
  simp
theorem sumR_bound {f : RecD → Int} {ds : List RecD} (h : ∀ d ∈ ds, 0 ≤ f d ∧ f d ≤ 3600) (k : Nat) : 0 ≤ sumR f (ds.take k) ∧ sumR f (ds.take k) ≤ 3600 * k := by
  induction k with
  | zero => simp [sumR]
  | succ k ih =>
    by_cases hk : k < ds.length
    · rw [sumR_succ (List.getElem?_eq_getElem hk)]
      have := h ds[k] (List.getElem_mem hk)
      push_cast
      omega
    · rw [List.take_of_length_le (by omega)]
      rw [List.take_of_length_le (by omega)] at ih
      push_cast
      omega
def busyF (l k : Int) (d : RecD) : Int := if d.l = l then endF k d - d.f else 0
def busyM (ds : List RecD) (l k : Int) : Int := if clockB ds k = true ∧ 1 ≤ l ∧ l ≤ 6 then sumR (busyF l k) ds else -1
theorem clockB_parts {ds : List RecD} {k : Int} (h : clockB ds k = true) : ds.length ≤ 60 ∧ 0 ≤ k ∧ k ≤ 3600 ∧ ∀ d ∈ ds, recOk d = true ∧ d.f ≤ k ∧ d.h ≤ k ∧ d.t ≤ k := by
  simp only [clockB, validR, lateB, Bool.and_eq_true, decide_eq_true_eq, List.all_eq_true] at h
  exact ⟨h.1.1.1, h.1.2.1, h.1.2.2, fun d hd => ⟨h.1.1.2 d hd, h.2 d hd⟩⟩
theorem recOk_times {d : RecD} {k : Int} (h : recOk d = true) (hk : d.f ≤ k ∧ d.h ≤ k ∧ d.t ≤ k) (k1 : k ≤ 3600) : 1 ≤ d.c ∧ d.c ≤ 99 ∧ 1 ≤ d.l ∧ d.l ≤ 6 ∧ 0 ≤ d.f ∧ d.f ≤ 3600 ∧ -1 ≤ d.t ∧ d.t ≤ 3600 ∧ -1 ≤ d.h ∧ d.h ≤ 3600 ∧ (d.t ≠ -1 → d.f ≤ d.t) ∧ (d.h ≠ -1 → d.f ≤ d.h) ∧ 0 ≤ endF k d - d.f ∧ endF k d - d.f ≤ 3600 ∧ -1 ≤ endF k d ∧ endF k d ≤ 3600 := by
  have h' : recP d.c d.l d.o d.f d.h d.t d.e.toList := of_decide_eq_true h
  unfold recP at h'
  unfold endF
  split <;> omega
theorem busyF_bound {ds : List RecD} {l k : Int} (h : clockB ds k = true) : ∀ d ∈ ds, 0 ≤ busyF l k d ∧ busyF l k d ≤ 3600 := by
  intro d hd
  obtain ⟨_, _, k1, hall⟩ := clockB_parts h
  obtain ⟨h1, h2⟩ := hall d hd
  have := recOk_times h1 h2 k1
  unfold busyF
  split <;> omega
section
variable {w W W' : World} {a0 a1 a2 a3 a4 a5 a6 : Addr} {v0 v1 v2 v3 v4 v5 v6 : Value}
theorem held7_below (hb : Below W.heap.size W W')
    (h : W.cell? a0 = some v0 ∧ W.cell? a1 = some v1 ∧ W.cell? a2 = some v2 ∧ W.cell? a3 = some v3 ∧ W.cell? a4 = some v4 ∧ W.cell? a5 = some v5 ∧ W.cell? a6 = some v6 ∧ Below w.heap.size w W) :
    W'.cell? a0 = some v0 ∧ W'.cell? a1 = some v1 ∧ W'.cell? a2 = some v2 ∧ W'.cell? a3 = some v3 ∧ W'.cell? a4 = some v4 ∧ W'.cell? a5 = some v5 ∧ W'.cell? a6 = some v6 ∧ Below w.heap.size w W' := by
  have e : ∀ {a : Addr} {v : Value}, W.cell? a = some v → W'.cell? a = some v := fun {a v} hv => (World.cell?_of_block (hb.block _ (World.block_lt_of_cell? W _ hv))).trans hv
  obtain ⟨h0, h1, h2, h3, h4, h5, h6, h7⟩ := h
  exact ⟨e h0, e h1, e h2, e h3, e h4, e h5, e h6, below_step h7 hb⟩
theorem held7_drew 
    (h : W.cell? a0 = some v0 ∧ W.cell? a1 = some v1 ∧ W.cell? a2 = some v2 ∧ W.cell? a3 = some v3 ∧ W.cell? a4 = some v4 ∧ W.cell? a5 = some v5 ∧ W.cell? a6 = some v6 ∧ Below w.heap.size w W) :
    W.drew.cell? a0 = some v0 ∧ W.drew.cell? a1 = some v1 ∧ W.drew.cell? a2 = some v2 ∧ W.drew.cell? a3 = some v3 ∧ W.drew.cell? a4 = some v4 ∧ W.drew.cell? a5 = some v5 ∧ W.drew.cell? a6 = some v6 ∧ Below w.heap.size w W.drew := by
  obtain ⟨h0, h1, h2, h3, h4, h5, h6, h7⟩ := h
  exact ⟨h0, h1, h2, h3, h4, h5, h6, ⟨h7.os, h7.tape, h7.output, h7.size, h7.block⟩⟩
end
set_option maxHeartbeats 4000000 in
set_option maxRecDepth 20000 in
theorem spec_BusyMinutes (lo hi n c : Nat) (A : Option Addr) (ds : List RecD) (l q : Int) (w : World) (h : Slc w lo hi 7 A n c (recs ds)) (hn : n ≤ 1048576) :
    Calls Try.prog 10 #[.slice A n c, .int .i64 l, .int .i64 q] w fun e w' => e = .returned (.int .i64 (busyM ds l q)) ∧ Below w.heap.size w w' := by
  have hl := Lib.hid h.recLen
  obtain ⟨t, ht⟩ : ∃ t, t = clockB ds q := ⟨_, rfl⟩
  have HT := Lib.hid ht
  clear ht
  go_enter Try.func10, Try.ntmps10
  go_wp2_with fail
  refine (spec_l8Clock _ _ _ _ _ _ _ _ h hn).mono ?_
  rintro e w0 ⟨rfl, b0⟩
  rw [← HT.out]
  have h0 := h.below b0
  have B0 := below_step (Below.refl _ _) b0
  clear h b0
  cases t
  · clear h0
    go_wp2
    go_ret
    exact ⟨ret_int (by symm; unfold busyM; rw [← HT.out]; simp), B0⟩
  · by_cases hq : 1 ≤ l ∧ l ≤ 6
    · obtain ⟨q0, q1⟩ := hq
      have HB := Lib.hid (show inB l 1 6 = true by simp [inB, q0, q1])
      have HM := Lib.hid (show busyM ds l q = sumR (busyF l q) ds by unfold busyM; rw [if_pos ⟨HT.out.symm, q0, q1⟩])
      have HP := Lib.hid (clockB_parts HT.out.symm)
      have HS := Lib.hid (sumR_bound (busyF_bound (l := l) HT.out.symm))
      go_wp2_with ((go_at_call 31; refine (l1In_any _ _ _ _).mono ?_; rintro e w' ⟨rfl, hww⟩; obtain rfl := hww.symm; rw [HB.out]))
      go_loopw [7, 8] (fun s i wr => ∃ k : Nat, k ≤ n ∧ s = .int .i64 (sumR (busyF l q) (ds.take k)) ∧ i = .int .i64 k ∧ Below w0.heap.size w0 wr) (fun _ i _ => n - (intOf i).toNat)
      case atStart => exact ⟨0, Nat.zero_le _, by simp [sumR], rfl, Below.refl _ _⟩
      case round =>
        obtain ⟨k, hk, rfl, rfl, B⟩ := hrel
        by_cases hlt : k < n
        · obtain ⟨b, off, d, hA, _, _, h3, hxk, hv0, hv1, hv2, hv3, hv4, hv5, hv6⟩ := (h0.below B).rec7 hlt
          subst hA
          have HX := Lib.hid (sumR_succ (f := busyF l q) hxk)
          have hd := List.mem_of_getElem? hxk
          have HD := Lib.hid (HP.out.2.2.2 d hd)
          have hrt := recOk_times HD.out.1 HD.out.2 HP.out.2.2.1
          have hs := HS.out k
          have hl60 := HP.out.1
          have hll := hl.out
          have i0 : (0 : Int) ≤ (k : Int) := by omega
          have i1 : (k : Int) < (n : Int) := by omega
          by_cases hdl : d.l = l
          · subst hdl
            have HF := Lib.hid (show busyF d.l q d = endF q d - d.f by unfold busyF; rw [if_pos rfl])
            have HE := Lib.hid (show (if d.t < 0 then q else d.t) = endF q d by unfold endF; split <;> split <;> omega)
            obtain ⟨E, hE⟩ : ∃ E, E = endF q d := ⟨_, rfl⟩
            obtain ⟨s, hs'⟩ : ∃ s, s = sumR (busyF d.l q) (ds.take k) := ⟨_, rfl⟩
            rw [← hE] at HF HE hrt
            rw [← hs'] at HX hs ⊢
            have r0 : -9223372036854775808 ≤ s + E ∧ s + E ≤ 9223372036854775807 := by omega
            have r1 : -9223372036854775808 ≤ s + E - d.f ∧ s + E - d.f ≤ 9223372036854775807 := by omega
            have HR := Lib.hid hrt
            have W1 := (IntWalk.i64_left _).trans (IntWalk.wrap64_in _ r0)
            have W2 := (IntWalk.i64_left _).trans (IntWalk.wrap64_in _ r1)
            have S0 : wr.cell? ⟨b, off + k * 7, none⟩ = some (.int .i64 d.c) ∧ wr.cell? ⟨b, off + k * 7 + 1, none⟩ = some (.int .i64 d.l) ∧ wr.cell? ⟨b, off + k * 7 + 2, none⟩ = some (.int .i64 d.o) ∧ wr.cell? ⟨b, off + k * 7 + 3, none⟩ = some (.int .i64 d.f) ∧ wr.cell? ⟨b, off + k * 7 + 4, none⟩ = some (.int .i64 d.h) ∧ wr.cell? ⟨b, off + k * 7 + 5, none⟩ = some (.int .i64 d.t) ∧ wr.cell? ⟨b, off + k * 7 + 6, none⟩ = some (.string d.e) ∧ Below w0.heap.size w0 wr := ⟨hv0, hv1, hv2, hv3, hv4, hv5, hv6, B⟩
            clear hxk h0 hv0 hv1 hv2 hv3 hv4 hv5 hv6 h3 B hd hrt hs hl60 hll hE hs' r0 r1
            go_wp2_with fail
            go_region_held3 (fun W => W.cell? ⟨b, off + k * 7, none⟩ = some (.int .i64 d.c) ∧ W.cell? ⟨b, off + k * 7 + 1, none⟩ = some (.int .i64 d.l) ∧ W.cell? ⟨b, off + k * 7 + 2, none⟩ = some (.int .i64 d.o) ∧ W.cell? ⟨b, off + k * 7 + 3, none⟩ = some (.int .i64 d.f) ∧ W.cell? ⟨b, off + k * 7 + 4, none⟩ = some (.int .i64 d.h) ∧ W.cell? ⟨b, off + k * 7 + 5, none⟩ = some (.int .i64 d.t) ∧ W.cell? ⟨b, off + k * 7 + 6, none⟩ = some (.string d.e) ∧ Below w0.heap.size w0 W)
              (first | exact held7_drew S0 | exact held7_below (by assumption) (by assumption) | exact held7_drew (by assumption))
              (first | (go_at_call 32; refine (spec_l8To d q _).mono ?_; rintro x w2 ⟨rfl, b2⟩; rw [HE.out]))
            have S2 : Below w0.heap.size w0 w2 := by
              have S1 : w2.cell? ⟨b, off + k * 7, none⟩ = some (.int .i64 d.c) ∧ w2.cell? ⟨b, off + k * 7 + 1, none⟩ = some (.int .i64 d.l) ∧ w2.cell? ⟨b, off + k * 7 + 2, none⟩ = some (.int .i64 d.o) ∧ w2.cell? ⟨b, off + k * 7 + 3, none⟩ = some (.int .i64 d.f) ∧ w2.cell? ⟨b, off + k * 7 + 4, none⟩ = some (.int .i64 d.h) ∧ w2.cell? ⟨b, off + k * 7 + 5, none⟩ = some (.int .i64 d.t) ∧ w2.cell? ⟨b, off + k * 7 + 6, none⟩ = some (.string d.e) ∧ Below w0.heap.size w0 w2 := by assumption
              exact S1.2.2.2.2.2.2.2
            clear S0
            have HN := Lib.hid (show s + E - d.f = sumR (busyF d.l q) (ds.take (k + 1)) by rw [HX.out, HF.out]; omega)
            clear W1 W2
            go_wp2
            go_roundw
            case rel => exact ⟨k + 1, by omega, by rw [HN.out], by go_num, S2⟩
            case measure => simp [intOf]; omega
          · have HF := Lib.hid (show busyF l q d = 0 by unfold busyF; rw [if_neg hdl])
            clear hxk h0 hv0 hv2 hv3 hv4 hv5 hv6 h3 hd hrt hs hl60 hll
            go_wp2
            go_roundw
            case rel => exact ⟨k + 1, by omega, by rw [HX.out, HF.out, Int.add_zero], by go_num, B⟩
            case measure => simp [intOf]; omega
        · have e : n = k := by omega
          subst e
          have HE := Lib.hid (show ds.take n = ds by rw [List.take_of_length_le (by rw [hl.out]; exact Nat.le_refl _)])
          clear h0
          go_wp2
          go_ret
          exact ⟨ret_int (by rw [HM.out, HE.out]), B0.trans (B.mono B0.size)⟩
    · have HQ := Lib.hid (show inB l 1 6 = false by rw [← Bool.not_eq_true]; simpa [inB] using hq)
      have HM := Lib.hid (show busyM ds l q = -1 by unfold busyM; rw [if_neg (fun x => hq x.2)])
      clear hq h0
      go_wp2_with ((go_at_call 31; refine (l1In_any _ _ _ _).mono ?_; rintro e w' ⟨rfl, hww⟩; obtain rfl := hww.symm; rw [HQ.out]))
      go_ret
      exact ⟨ret_int HM.out.symm, B0⟩
end Go.Proofs.Ytjcpjijihajopaa
namespace Go.Proofs.Ytjcpjijihajopaa
open Go.RowKit
set_option linter.unusedVariables false
def untilF (k : Int) (d : RecD) : Int := if d.h = -1 then endF k d else d.h
def waitF (l k : Int) (d : RecD) : Int := if d.c = l then untilF k d - d.f else 0
def waitM (ds : List RecD) (l k : Int) : Int := if clockB ds k = true ∧ 1 ≤ l ∧ l ≤ 99 then sumR (waitF l k) ds else -1
theorem until_times {d : RecD} {k : Int} (h : recOk d = true) (hk : d.f ≤ k ∧ d.h ≤ k ∧ d.t ≤ k) (k1 : k ≤ 3600) : 0 ≤ untilF k d - d.f ∧ untilF k d - d.f ≤ 3600 ∧ -1 ≤ untilF k d ∧ untilF k d ≤ 3600 := by
  have := recOk_times h hk k1
  unfold untilF
  split <;> omega
theorem waitF_bound {ds : List RecD} {l k : Int} (h : clockB ds k = true) : ∀ d ∈ ds, 0 ≤ waitF l k d ∧ waitF l k d ≤ 3600 := by
  intro d hd
  obtain ⟨_, _, k1, hall⟩ := clockB_parts h
  obtain ⟨h1, h2⟩ := hall d hd
  have := until_times h1 h2 k1
  unfold waitF
  split <;> omega
set_option maxHeartbeats 4000000 in
set_option maxRecDepth 20000 in
theorem spec_WaitedMinutes (lo hi n c : Nat) (A : Option Addr) (ds : List RecD) (l q : Int) (w : World) (h : Slc w lo hi 7 A n c (recs ds)) (hn : n ≤ 1048576) :
    Calls Try.prog 14 #[.slice A n c, .int .i64 l, .int .i64 q] w fun e w' => e = .returned (.int .i64 (waitM ds l q)) ∧ Below w.heap.size w w' := by
  have hl := Lib.hid h.recLen
  obtain ⟨t, ht⟩ : ∃ t, t = clockB ds q := ⟨_, rfl⟩
  have HT := Lib.hid ht
  clear ht
  go_enter Try.func14, Try.ntmps14
  go_wp2_with fail
  refine (spec_l8Clock _ _ _ _ _ _ _ _ h hn).mono ?_
  rintro e w0 ⟨rfl, b0⟩
  rw [← HT.out]
  have h0 := h.below b0
  have B0 := below_step (Below.refl _ _) b0
  clear h b0
  cases t
  · clear h0
    go_wp2
    go_ret
    exact ⟨ret_int (by symm; unfold waitM; rw [← HT.out]; simp), B0⟩
  · by_cases hq : 1 ≤ l ∧ l ≤ 99
    · obtain ⟨q0, q1⟩ := hq
      have HB := Lib.hid (show inB l 1 99 = true by simp [inB, q0, q1])
      have HM := Lib.hid (show waitM ds l q = sumR (waitF l q) ds by unfold waitM; rw [if_pos ⟨HT.out.symm, q0, q1⟩])
      have HP := Lib.hid (clockB_parts HT.out.symm)
      have HS := Lib.hid (sumR_bound (waitF_bound (l := l) HT.out.symm))
      go_wp2_with ((go_at_call 31; refine (l1In_any _ _ _ _).mono ?_; rintro e w' ⟨rfl, hww⟩; obtain rfl := hww.symm; rw [HB.out]))
      go_loopw [7, 8] (fun s i wr => ∃ k : Nat, k ≤ n ∧ s = .int .i64 (sumR (waitF l q) (ds.take k)) ∧ i = .int .i64 k ∧ Below w0.heap.size w0 wr) (fun _ i _ => n - (intOf i).toNat)
      case atStart => exact ⟨0, Nat.zero_le _, by simp [sumR], rfl, Below.refl _ _⟩
      case round =>
        obtain ⟨k, hk, rfl, rfl, B⟩ := hrel
        by_cases hlt : k < n
        · obtain ⟨b, off, d, hA, _, _, h3, hxk, hv0, hv1, hv2, hv3, hv4, hv5, hv6⟩ := (h0.below B).rec7 hlt
          subst hA
          have HX := Lib.hid (sumR_succ (f := waitF l q) hxk)
          have hd := List.mem_of_getElem? hxk
          have HD := Lib.hid (HP.out.2.2.2 d hd)
          have hrt := recOk_times HD.out.1 HD.out.2 HP.out.2.2.1
          have hut := until_times HD.out.1 HD.out.2 HP.out.2.2.1
          have hs := HS.out k
          have hl60 := HP.out.1
          have hll := hl.out
          have i0 : (0 : Int) ≤ (k : Int) := by omega
          have i1 : (k : Int) < (n : Int) := by omega
          by_cases hdl : d.c = l
          · subst hdl
            have HF := Lib.hid (show waitF d.c q d = untilF q d - d.f by unfold waitF; rw [if_pos rfl])
            obtain ⟨s, hs'⟩ : ∃ s, s = sumR (waitF d.c q) (ds.take k) := ⟨_, rfl⟩
            rw [← hs'] at HX hs ⊢
            by_cases hh : d.h = -1
            · have HU := Lib.hid (show untilF q d = endF q d by unfold untilF; rw [if_pos hh])
              have HE := Lib.hid (show (if d.t < 0 then q else d.t) = endF q d by unfold endF; split <;> split <;> omega)
              obtain ⟨E, hE⟩ : ∃ E, E = endF q d := ⟨_, rfl⟩
              rw [HU.out] at HF
              rw [← hE] at HF HE hrt
              have r0 : -9223372036854775808 ≤ s + E ∧ s + E ≤ 9223372036854775807 := by omega
              have r1 : -9223372036854775808 ≤ s + E - d.f ∧ s + E - d.f ≤ 9223372036854775807 := by omega
              have hhn : d.h < 0 := by omega
              have W1 := (IntWalk.i64_left _).trans (IntWalk.wrap64_in _ r0)
              have W2 := (IntWalk.i64_left _).trans (IntWalk.wrap64_in _ r1)
              have S0 : wr.cell? ⟨b, off + k * 7, none⟩ = some (.int .i64 d.c) ∧ wr.cell? ⟨b, off + k * 7 + 1, none⟩ = some (.int .i64 d.l) ∧ wr.cell? ⟨b, off + k * 7 + 2, none⟩ = some (.int .i64 d.o) ∧ wr.cell? ⟨b, off + k * 7 + 3, none⟩ = some (.int .i64 d.f) ∧ wr.cell? ⟨b, off + k * 7 + 4, none⟩ = some (.int .i64 d.h) ∧ wr.cell? ⟨b, off + k * 7 + 5, none⟩ = some (.int .i64 d.t) ∧ wr.cell? ⟨b, off + k * 7 + 6, none⟩ = some (.string d.e) ∧ Below w0.heap.size w0 wr := ⟨hv0, hv1, hv2, hv3, hv4, hv5, hv6, B⟩
              clear hxk h0 h3 B hd hrt hut hs hl60 hll hE hs' r0 r1 hh HU
              go_wp2_with fail
              go_region_held3 (fun W => W.cell? ⟨b, off + k * 7, none⟩ = some (.int .i64 d.c) ∧ W.cell? ⟨b, off + k * 7 + 1, none⟩ = some (.int .i64 d.l) ∧ W.cell? ⟨b, off + k * 7 + 2, none⟩ = some (.int .i64 d.o) ∧ W.cell? ⟨b, off + k * 7 + 3, none⟩ = some (.int .i64 d.f) ∧ W.cell? ⟨b, off + k * 7 + 4, none⟩ = some (.int .i64 d.h) ∧ W.cell? ⟨b, off + k * 7 + 5, none⟩ = some (.int .i64 d.t) ∧ W.cell? ⟨b, off + k * 7 + 6, none⟩ = some (.string d.e) ∧ Below w0.heap.size w0 W)
                (first | exact held7_drew S0 | exact held7_below (by assumption) (by assumption) | exact held7_drew (by assumption))
                (first | (go_at_call 32; refine (spec_l8To d q _).mono ?_; rintro x w2 ⟨rfl, b2⟩; rw [HE.out]))
              have S2 : Below w0.heap.size w0 w2 := by
                have S1 : w2.cell? ⟨b, off + k * 7, none⟩ = some (.int .i64 d.c) ∧ w2.cell? ⟨b, off + k * 7 + 1, none⟩ = some (.int .i64 d.l) ∧ w2.cell? ⟨b, off + k * 7 + 2, none⟩ = some (.int .i64 d.o) ∧ w2.cell? ⟨b, off + k * 7 + 3, none⟩ = some (.int .i64 d.f) ∧ w2.cell? ⟨b, off + k * 7 + 4, none⟩ = some (.int .i64 d.h) ∧ w2.cell? ⟨b, off + k * 7 + 5, none⟩ = some (.int .i64 d.t) ∧ w2.cell? ⟨b, off + k * 7 + 6, none⟩ = some (.string d.e) ∧ Below w0.heap.size w0 w2 := by assumption
                exact S1.2.2.2.2.2.2.2
              clear S0
              have HN := Lib.hid (show s + E - d.f = sumR (waitF d.c q) (ds.take (k + 1)) by rw [HX.out, HF.out]; omega)
              clear W1 W2
              go_wp2
              go_roundw
              case rel => exact ⟨k + 1, by omega, by rw [HN.out], by go_num, S2⟩
              case measure => simp [intOf]; omega
            · have HU := Lib.hid (show untilF q d = d.h by unfold untilF; rw [if_neg hh])
              rw [HU.out] at HF
              have r0 : -9223372036854775808 ≤ s + d.h ∧ s + d.h ≤ 9223372036854775807 := by omega
              have r1 : -9223372036854775808 ≤ s + d.h - d.f ∧ s + d.h - d.f ≤ 9223372036854775807 := by omega
              have hhn : 0 ≤ d.h := by omega
              have W1 := (IntWalk.i64_left _).trans (IntWalk.wrap64_in _ r0)
              have W2 := (IntWalk.i64_left _).trans (IntWalk.wrap64_in _ r1)
              clear hxk h0 hv1 hv2 hv5 hv6 h3 hd hrt hut hs hl60 hll hs' r0 r1 hh HU
              go_wp2_with fail
              go_quiet (fail)
              have HN := Lib.hid (show s + d.h - d.f = sumR (waitF d.c q) (ds.take (k + 1)) by rw [HX.out, HF.out]; omega)
              clear W1 W2
              go_wp2
              go_roundw
              case rel => exact ⟨k + 1, by omega, by rw [HN.out], by go_num, ⟨B.os, B.tape, B.output, B.size, B.block⟩⟩
              case measure => simp [intOf]; omega
          · have HF := Lib.hid (show waitF l q d = 0 by unfold waitF; rw [if_neg hdl])
            clear hxk h0 hv1 hv2 hv3 hv4 hv5 hv6 h3 hd hrt hut hs hl60 hll
            go_wp2
            go_roundw
            case rel => exact ⟨k + 1, by omega, by rw [HX.out, HF.out, Int.add_zero], by go_num, B⟩
            case measure => simp [intOf]; omega
        · have e : n = k := by omega
          subst e
          have HE := Lib.hid (show ds.take n = ds by rw [List.take_of_length_le (by rw [hl.out]; exact Nat.le_refl _)])
          clear h0
          go_wp2
          go_ret
          exact ⟨ret_int (by rw [HM.out, HE.out]), B0.trans (B.mono B0.size)⟩
    · have HQ := Lib.hid (show inB l 1 99 = false by rw [← Bool.not_eq_true]; simpa [inB] using hq)
      have HM := Lib.hid (show waitM ds l q = -1 by unfold waitM; rw [if_neg (fun x => hq x.2)])
      clear hq h0
      go_wp2_with ((go_at_call 31; refine (l1In_any _ _ _ _).mono ?_; rintro e w' ⟨rfl, hww⟩; obtain rfl := hww.symm; rw [HQ.out]))
      go_ret
      exact ⟨ret_int HM.out.symm, B0⟩
end Go.Proofs.Ytjcpjijihajopaa
namespace Go.Proofs.Ytjcpjijihajopaa
open Go.RowKit
def talkF (c l o f h t : Int) (e : List UInt8) : Int := if recB c l o f h t e = true ∧ e = [100, 111, 110, 101] then t - h else -1
set_option maxHeartbeats 1000000 in
theorem impl_TalkMinutes (c l o f h t : Int) (e : ByteArray) (w : World) :
    Calls Try.prog 28 #[.agg #[.int .i64 c, .int .i64 l, .int .i64 o, .int .i64 f, .int .i64 h, .int .i64 t, .string e]] w fun x w' => x = .returned (.int .i64 (talkF c l o f h t e.toList)) ∧ Below w.heap.size w w' := by
  by_cases hr : recB c l o f h t e.toList = true
  · by_cases hd : e.toList = [100, 111, 110, 101]
    · have hb : 0 ≤ t - h ∧ t - h ≤ 3600 := by
        have := of_decide_eq_true hr
        simp only [recP, hd] at this
        simp at this
        omega
      obtain ⟨hb0, hb1⟩ := hb
      have H := Lib.hid hr
      have hb' : (e.toList == [100, 111, 110, 101]) = true := by simp [hd]
      have hrf : talkF c l o f h t e.toList = t - h := by rw [talkF, if_pos ⟨hr, hd⟩]
      have HF := Lib.hid hrf
      clear hd hrf
      go_enter Try.func28, Try.ntmps28
      go_wp2_with fail
      refine (impl_RecordValid _ _ _ _ _ _ _ _).mono ?_
      rintro e w1 ⟨rfl, hb1⟩
      obtain ⟨k0_1, z0_1⟩ := blk_below hb1 (by first | exact heap_alloc_new _ _ | exact blk_alloc (heap_alloc_new _ _) _ | exact blk_alloc (blk_alloc (heap_alloc_new _ _) _) _)
      have c0_1 := blk_cell k0_1
      have B1 := below_step (w := w) (by first | exact Below.refl _ _ | exact below_al (Below.refl _ _) _ | exact below_al (below_al (Below.refl _ _) _) _ | exact below_al (below_al (below_al (Below.refl _ _) _) _) _ | exact below_al (below_al (below_al (below_al (Below.refl _ _) _) _) _) _ | exact below_al (below_al (below_al (below_al (below_al (Below.refl _ _) _) _) _) _) _) hb1
      clear hb1
      go_wp2
      go_ret
      exact ⟨ret_int HF.out.symm, B1⟩
    · have hrf : talkF c l o f h t e.toList = -1 := by rw [talkF, if_neg (fun x => hd x.2)]
      have HF := Lib.hid hrf
      have hb' : (e.toList == [100, 111, 110, 101]) = false := by simp [hd]
      clear hrf hd
      go_enter Try.func28, Try.ntmps28
      go_wp2_with fail
      refine (impl_RecordValid _ _ _ _ _ _ _ _).mono ?_
      rintro e w1 ⟨rfl, hb1⟩
      obtain ⟨k0_1, z0_1⟩ := blk_below hb1 (by first | exact heap_alloc_new _ _ | exact blk_alloc (heap_alloc_new _ _) _ | exact blk_alloc (blk_alloc (heap_alloc_new _ _) _) _)
      have c0_1 := blk_cell k0_1
      have B1 := below_step (w := w) (by first | exact Below.refl _ _ | exact below_al (Below.refl _ _) _ | exact below_al (below_al (Below.refl _ _) _) _ | exact below_al (below_al (below_al (Below.refl _ _) _) _) _ | exact below_al (below_al (below_al (below_al (Below.refl _ _) _) _) _) _ | exact below_al (below_al (below_al (below_al (below_al (Below.refl _ _) _) _) _) _) _) hb1
      clear hb1
      go_wp2
      go_ret
      exact ⟨ret_int HF.out.symm, B1⟩
  · have hr' : recB c l o f h t e.toList = false := by simpa using hr
    have hrf : talkF c l o f h t e.toList = -1 := by rw [talkF, if_neg (fun x => hr x.1)]
    have HF := Lib.hid hrf
    clear hrf hr
    go_enter Try.func28, Try.ntmps28
    go_wp2_with fail
    refine (impl_RecordValid _ _ _ _ _ _ _ _).mono ?_
    rintro e w1 ⟨rfl, hb1⟩
    obtain ⟨k0_1, z0_1⟩ := blk_below hb1 (by first | exact heap_alloc_new _ _ | exact blk_alloc (heap_alloc_new _ _) _ | exact blk_alloc (blk_alloc (heap_alloc_new _ _) _) _)
    have c0_1 := blk_cell k0_1
    have B1 := below_step (w := w) (by first | exact Below.refl _ _ | exact below_al (Below.refl _ _) _ | exact below_al (below_al (Below.refl _ _) _) _ | exact below_al (below_al (below_al (Below.refl _ _) _) _) _ | exact below_al (below_al (below_al (below_al (Below.refl _ _) _) _) _) _ | exact below_al (below_al (below_al (below_al (below_al (Below.refl _ _) _) _) _) _) _) hb1
    clear hb1
    go_wp2
    go_ret
    exact ⟨ret_int HF.out.symm, B1⟩
set_option maxHeartbeats 1000000 in
theorem spec_TalkMinutes (c l o f h t : Int) (e : ByteArray) (w : World) :
    Calls Try.prog 42 #[.agg #[.int .i64 c, .int .i64 l, .int .i64 o, .int .i64 f, .int .i64 h, .int .i64 t, .string e]] w fun x w' => x = .returned (.int .i64 (talkF c l o f h t e.toList)) ∧ Below w.heap.size w w' := by
  by_cases hr : recB c l o f h t e.toList = true
  · by_cases hd : e.toList = [100, 111, 110, 101]
    · have hb : 0 ≤ t - h ∧ t - h ≤ 3600 := by
        have := of_decide_eq_true hr
        simp only [recP, hd] at this
        simp at this
        omega
      obtain ⟨hb0, hb1⟩ := hb
      have H := Lib.hid hr
      have hb' : (e.toList == [100, 111, 110, 101]) = true := by simp [hd]
      have hrf : talkF c l o f h t e.toList = t - h := by rw [talkF, if_pos ⟨hr, hd⟩]
      have HF := Lib.hid hrf
      clear hd hrf
      go_enter Try.func42, Try.ntmps42
      go_wp2_with fail
      refine (spec_RecordValid _ _ _ _ _ _ _ _).mono ?_
      rintro e w1 ⟨rfl, hb1⟩
      obtain ⟨k0_1, z0_1⟩ := blk_below hb1 (by first | exact heap_alloc_new _ _ | exact blk_alloc (heap_alloc_new _ _) _ | exact blk_alloc (blk_alloc (heap_alloc_new _ _) _) _)
      have c0_1 := blk_cell k0_1
      have B1 := below_step (w := w) (by first | exact Below.refl _ _ | exact below_al (Below.refl _ _) _ | exact below_al (below_al (Below.refl _ _) _) _ | exact below_al (below_al (below_al (Below.refl _ _) _) _) _ | exact below_al (below_al (below_al (below_al (Below.refl _ _) _) _) _) _ | exact below_al (below_al (below_al (below_al (below_al (Below.refl _ _) _) _) _) _) _) hb1
      clear hb1
      go_wp2
      go_ret
      exact ⟨ret_int HF.out.symm, B1⟩
    · have hrf : talkF c l o f h t e.toList = -1 := by rw [talkF, if_neg (fun x => hd x.2)]
      have HF := Lib.hid hrf
      have hb' : (e.toList == [100, 111, 110, 101]) = false := by simp [hd]
      clear hrf hd
      go_enter Try.func42, Try.ntmps42
      go_wp2_with fail
      refine (spec_RecordValid _ _ _ _ _ _ _ _).mono ?_
      rintro e w1 ⟨rfl, hb1⟩
      obtain ⟨k0_1, z0_1⟩ := blk_below hb1 (by first | exact heap_alloc_new _ _ | exact blk_alloc (heap_alloc_new _ _) _ | exact blk_alloc (blk_alloc (heap_alloc_new _ _) _) _)
      have c0_1 := blk_cell k0_1
      have B1 := below_step (w := w) (by first | exact Below.refl _ _ | exact below_al (Below.refl _ _) _ | exact below_al (below_al (Below.refl _ _) _) _ | exact below_al (below_al (below_al (Below.refl _ _) _) _) _ | exact below_al (below_al (below_al (below_al (Below.refl _ _) _) _) _) _ | exact below_al (below_al (below_al (below_al (below_al (Below.refl _ _) _) _) _) _) _) hb1
      clear hb1
      go_wp2
      go_ret
      exact ⟨ret_int HF.out.symm, B1⟩
  · have hr' : recB c l o f h t e.toList = false := by simpa using hr
    have hrf : talkF c l o f h t e.toList = -1 := by rw [talkF, if_neg (fun x => hr x.1)]
    have HF := Lib.hid hrf
    clear hrf hr
    go_enter Try.func42, Try.ntmps42
    go_wp2_with fail
    refine (spec_RecordValid _ _ _ _ _ _ _ _).mono ?_
    rintro e w1 ⟨rfl, hb1⟩
    obtain ⟨k0_1, z0_1⟩ := blk_below hb1 (by first | exact heap_alloc_new _ _ | exact blk_alloc (heap_alloc_new _ _) _ | exact blk_alloc (blk_alloc (heap_alloc_new _ _) _) _)
    have c0_1 := blk_cell k0_1
    have B1 := below_step (w := w) (by first | exact Below.refl _ _ | exact below_al (Below.refl _ _) _ | exact below_al (below_al (Below.refl _ _) _) _ | exact below_al (below_al (below_al (Below.refl _ _) _) _) _ | exact below_al (below_al (below_al (below_al (Below.refl _ _) _) _) _) _ | exact below_al (below_al (below_al (below_al (below_al (Below.refl _ _) _) _) _) _) _) hb1
    clear hb1
    go_wp2
    go_ret
    exact ⟨ret_int HF.out.symm, B1⟩
end Go.Proofs.Ytjcpjijihajopaa
