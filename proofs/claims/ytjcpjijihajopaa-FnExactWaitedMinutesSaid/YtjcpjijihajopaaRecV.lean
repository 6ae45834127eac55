/-
  Whether records are valid, and times after them.
-/
import Derived.Test.YtjcpjijihajopaaRecT
set_option linter.unusedSectionVars false
set_option linter.unusedSimpArgs false
set_option linter.unusedVariables false
namespace Go.Proofs.Ytjcpjijihajopaa
open Go.RowKit
set_option linter.unusedVariables false
theorem allF_snoc {α : Type} {p : α → Bool} {l : List α} {k : Nat} {a : α} (h : ∀ j, j < k → ∀ b, l[j]? = some b → p b = true) (hk : l[k]? = some a) (ha : p a = true) : ∀ j, j < k + 1 → ∀ b, l[j]? = some b → p b = true := by
  intro j hj b hb
  by_cases e : j = k
  · subst e; rw [hk] at hb; injection hb with hb; subst hb; exact ha
  · exact h j (by omega) b hb
theorem allF_of {α : Type} {p : α → Bool} {l : List α} {k : Nat} (h : ∀ j, j < k → ∀ b, l[j]? = some b → p b = true) (hk : l.length ≤ k) : l.all p = true := by
  rw [List.all_eq_true]; intro a ha
  obtain ⟨j, hj, e⟩ := List.mem_iff_getElem.1 ha
  exact h j (by omega) a (by rw [List.getElem?_eq_getElem hj, e])
theorem allF_not {α : Type} {p : α → Bool} {l : List α} {k : Nat} {a : α} (hk : l[k]? = some a) (ha : p a = false) : l.all p = false := by
  rw [List.all_eq_false]; exact ⟨a, List.mem_of_getElem? hk, by simp [ha]⟩
def recOk (d : RecD) : Bool := recB d.c d.l d.o d.f d.h d.t d.e.toList
def validR (ds : List RecD) : Bool := decide (ds.length ≤ 60) && ds.all recOk
def lateB (k : Int) (d : RecD) : Bool := decide (d.f ≤ k ∧ d.h ≤ k ∧ d.t ≤ k)
def clockB (ds : List RecD) (k : Int) : Bool := validR ds && decide (0 ≤ k ∧ k ≤ 3600) && ds.all (lateB k)
theorem validR_not {ds : List RecD} (h : ds.all recOk = false) : validR ds = false := by simp only [validR, h, Bool.and_false]
theorem validR_all {ds : List RecD} (h : ds.all recOk = true) : validR ds = decide (ds.length ≤ 60) := by simp only [validR, h, Bool.and_true]
theorem validR_len {ds : List RecD} (h : ¬ ds.length ≤ 60) : validR ds = false := by simp only [validR, h, decide_false, Bool.false_and]
theorem recOk_spec (d : RecD) (w : World) : Calls Try.prog 58 #[.agg #[.int .i64 d.c, .int .i64 d.l, .int .i64 d.o, .int .i64 d.f, .int .i64 d.h, .int .i64 d.t, .string d.e]] w fun x w' => x = .returned (.bool (recOk d)) ∧ Below w.heap.size w w' := spec_RecordValid _ _ _ _ _ _ _ _
theorem recOk_impl (d : RecD) (w : World) : Calls Try.prog 53 #[.agg #[.int .i64 d.c, .int .i64 d.l, .int .i64 d.o, .int .i64 d.f, .int .i64 d.h, .int .i64 d.t, .string d.e]] w fun x w' => x = .returned (.bool (recOk d)) ∧ Below w.heap.size w w' := impl_RecordValid _ _ _ _ _ _ _ _
set_option maxHeartbeats 1000000 in
theorem spec_l8Valid (lo hi n c : Nat) (A : Option Addr) (ds : List RecD) (w : World) (h : Slc w lo hi 7 A n c (recs ds)) (hn : n ≤ 1048576) :
    Calls Try.prog 41 #[.slice A n c] w fun e w' => e = .returned (.bool (validR ds)) ∧ Below w.heap.size w w' := by
  have hl := Lib.hid h.recLen
  go_enter Try.func41, Try.ntmps41
  go_wp2
  go_loopw [3] (fun i wr => ∃ k : Nat, k ≤ n ∧ i = .int .i64 k ∧ Below w.heap.size w wr ∧ ∀ j, j < k → ∀ b, ds[j]? = some b → recOk b = true) (fun i _ => n - (intOf i).toNat)
  case atStart => exact ⟨0, Nat.zero_le _, rfl, Below.refl _ _, fun j hj => absurd hj (by omega)⟩
  case round =>
    obtain ⟨k, hk, rfl, B, hcs⟩ := hrel
    have HC := Lib.hid hcs
    clear hcs
    by_cases hlt : k < n
    · obtain ⟨b, off, d, hA, _, _, h3, hxk, hv0, hv1, hv2, hv3, hv4, hv5, hv6⟩ := (h.below B).rec7 hlt
      subst hA
      have HX := Lib.hid hxk
      clear hxk h
      obtain ⟨t, ht⟩ : ∃ t, t = recOk d := ⟨_, rfl⟩
      have HT := Lib.hid ht
      clear ht
      go_wp2_with fail
      refine (recOk_spec d _).mono ?_
      rintro e w1 ⟨rfl, b1⟩
      have B1 := below_step B b1
      rw [← HT.out]
      clear hv0 hv1 hv2 hv3 hv4 hv5 hv6 h3 b1 B
      cases t
      · go_wp2
        go_ret
        exact ⟨ret_bool (by symm; rw [validR_not (allF_not HX.out HT.out.symm)]), B1⟩
      · go_wp2
        go_roundw
        case rel => exact ⟨k + 1, by omega, by go_num, B1, allF_snoc HC.out HX.out HT.out.symm⟩
        case measure => simp [intOf]; omega
    · have e : n = k := by omega
      subst e
      have HA := Lib.hid (allF_of (p := recOk) HC.out (by rw [hl.out]; exact Nat.le_refl _))
      clear h
      by_cases h60 : n ≤ 60
      · go_wp2
        go_ret
        exact ⟨ret_bool (by symm; rw [validR_all HA.out, hl.out]; simp [h60]; omega), B⟩
      · go_wp2
        go_ret
        exact ⟨ret_bool (by symm; rw [validR_all HA.out, hl.out]; simp [h60]; omega), B⟩
set_option maxHeartbeats 1000000 in
theorem impl_recordsValid (lo hi n c : Nat) (A : Option Addr) (ds : List RecD) (w : World) (h : Slc w lo hi 7 A n c (recs ds)) (hn : n ≤ 1048576) :
    Calls Try.prog 45 #[.slice A n c] w fun e w' => e = .returned (.bool (validR ds)) ∧ Below w.heap.size w w' := by
  have hl := Lib.hid h.recLen
  by_cases h60 : n ≤ 60
  · go_enter Try.func45, Try.ntmps45
    go_wp2
    go_loopw [10] (fun i wr => ∃ k : Nat, k ≤ n ∧ i = .int .i64 k ∧ Below w.heap.size w wr ∧ ∀ j, j < k → ∀ b, ds[j]? = some b → recOk b = true) (fun i _ => n - (intOf i).toNat)
    case atStart => exact ⟨0, Nat.zero_le _, rfl, Below.refl _ _, fun j hj => absurd hj (by omega)⟩
    case round =>
      obtain ⟨k, hk, rfl, B, hcs⟩ := hrel
      have HC := Lib.hid hcs
      clear hcs
      by_cases hlt : k < n
      · obtain ⟨b, off, d, hA, _, _, h3, hxk, hv0, hv1, hv2, hv3, hv4, hv5, hv6⟩ := (h.below B).rec7 hlt
        subst hA
        have HX := Lib.hid hxk
        clear hxk h
        obtain ⟨t, ht⟩ : ∃ t, t = recOk d := ⟨_, rfl⟩
        have HT := Lib.hid ht
        clear ht
        go_wp2_with fail
        refine (recOk_impl d _).mono ?_
        rintro e w1 ⟨rfl, b1⟩
        have B1 := below_step (below_al B _) b1
        rw [← HT.out]
        clear hv0 hv1 hv2 hv3 hv4 hv5 hv6 h3 b1 B
        cases t
        · go_wp2
          go_ret
          exact ⟨ret_bool (by symm; rw [validR_not (allF_not HX.out HT.out.symm)]), B1⟩
        · go_wp2
          go_roundw
          case rel => exact ⟨k + 1, by omega, by go_num, B1, allF_snoc HC.out HX.out HT.out.symm⟩
          case measure => simp [intOf]; omega
      · have e : n = k := by omega
        subst e
        have HA := Lib.hid (allF_of (p := recOk) HC.out (by rw [hl.out]; exact Nat.le_refl _))
        clear h
        go_wp2
        go_ret
        exact ⟨ret_bool (by symm; rw [validR_all HA.out, hl.out]; simp [h60]), B⟩
  · clear h
    go_enter Try.func45, Try.ntmps45
    go_wp2
    go_ret
    exact ⟨ret_bool (by symm; rw [validR_len (by rw [hl.out]; exact h60)]), Below.refl _ _⟩
/-- When a record's call was on its line no more. -/
def endF (k : Int) (d : RecD) : Int := if d.t = -1 then k else d.t
set_option maxHeartbeats 1000000 in
theorem impl_endAt (d : RecD) (k : Int) (w : World) : Calls Try.prog 37 #[.agg #[.int .i64 d.c, .int .i64 d.l, .int .i64 d.o, .int .i64 d.f, .int .i64 d.h, .int .i64 d.t, .string d.e], .int .i64 k] w fun x w' => x = .returned (.int .i64 (endF k d)) ∧ Below w.heap.size w w' := by
  go_enter Try.func37, Try.ntmps37
  go_wp2
  all_goals go_ret
  all_goals refine ⟨ret_int ?_, below_al (Below.refl _ _) _⟩
  all_goals simp_all [endF]
set_option maxHeartbeats 1000000 in
theorem spec_l8To (d : RecD) (k : Int) (w : World) : Calls Try.prog 32 #[.agg #[.int .i64 d.c, .int .i64 d.l, .int .i64 d.o, .int .i64 d.f, .int .i64 d.h, .int .i64 d.t, .string d.e], .int .i64 k] w fun x w' => x = .returned (.int .i64 (if d.t < 0 then k else d.t)) ∧ Below w.heap.size w w' := by
  go_enter Try.func32, Try.ntmps32
  go_wp2
  all_goals go_ret
  all_goals refine ⟨ret_int ?_, below_al (Below.refl _ _) _⟩
  all_goals simp_all
  all_goals omega
end Go.Proofs.Ytjcpjijihajopaa
